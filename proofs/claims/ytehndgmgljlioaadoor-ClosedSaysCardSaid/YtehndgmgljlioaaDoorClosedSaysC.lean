/- The walk of the law ClosedSays: Union, Concat and Star against the reference. -/
import Derived.Test.YtehndgmgljlioaaDoorPutRef
import Derived.Test.YtehndgmgljlioaaDoorPairErr
import Derived.Test.YtehndgmgljlioaaDoorClosedStarE
import Derived.Test.YtehndgmgljlioaaDoorSame
import Derived.Test.YtehndgmgljlioaaDoorSimple
import Derived.Test.YtehndgmgljlioaaDoorOpen
namespace Go.Proofs.YtehndgmgljlioaaDoor
open Go.RowKit
set_option linter.unusedVariables false

theorem putS_neg {m : Int} {s : Sym} (h : 0 ≤ s.n) : putS (-1) m s = s := by
  unfold putS
  split
  · rename_i e; rw [e] at h; simp at h
  · rfl
theorem putR_neg {m : Int} {q : Rule} (h : ∀ s ∈ q.right, 0 ≤ s.n) : putR (-1) m q = q := by
  unfold putR
  rw [List.map_congr_left (fun s hs => putS_neg (h s hs)), List.map_id']
theorem shS_zero (s : Sym) : shS 0 s = s := by obtain ⟨a, b⟩ := s; cases a <;> simp [shS]
theorem shR_zero (q : Rule) : shR 0 q = q := by
  obtain ⟨l, r⟩ := q
  unfold shR
  rw [show shS 0 = id from funext shS_zero, List.map_id, Int.add_zero]
theorem putMap {g : Gram} (hv : ValidG g) (m : Int) : g.rules.map (putR (-1) m) = g.rules.map (shR 0) :=
  List.map_congr_left fun q hq => by rw [shR_zero, putR_neg (fun s hs => ((hv.rules q hq).2.2.2 s hs).1)]
theorem putAll_star {g : Gram} (hv : ValidG g) : putAll g (-1) zeroG [⟨g.nons, []⟩, ⟨g.nons, [⟨false, g.nons⟩, ⟨false, g.start⟩]⟩] = starG g := by
  unfold putAll putT starG zeroG
  simp [putMap hv]
theorem putAll_u {g h : Gram} (hv : ValidG g) : putAll g (-1) h [⟨g.nons + h.nons, [⟨false, g.start⟩]⟩, ⟨g.nons + h.nons, [⟨false, g.nons + h.start⟩]⟩] = twoG g h (llU g.start (g.nons + h.start)) := by
  unfold putAll putT twoG llU
  simp [putMap hv]
theorem putAll_c {g h : Gram} (hv : ValidG g) : putAll g (-1) h [⟨g.nons + h.nons, [⟨false, g.start⟩, ⟨false, g.nons + h.start⟩]⟩] = twoG g h (llC g.start (g.nons + h.start)) := by
  unfold putAll putT twoG llC
  simp [putMap hv]
theorem simple_star : ∃ sR, sR.length = 4 ∧ starR simpleG = (⟨1, 2, 1, sR⟩, 0) := ⟨(starG simpleG).rules, rfl, by decide +kernel⟩
theorem valid_b {h : Gram} (hv : ValidG h) : (0 ≤ h.terms ∧ h.terms ≤ 100 ∧ 0 ≤ h.nons ∧ h.nons ≤ 100 ∧ 0 ≤ h.start ∧ h.start ≤ 100) ∧ (h.rules.length ≤ 32 ∧ ∀ q ∈ h.rules, (0 ≤ q.left ∧ q.left ≤ 100) ∧ q.right.length ≤ 4 ∧ ∀ s ∈ q.right, 0 ≤ s.n ∧ s.n ≤ 100) := by
  have h1 := hv.t1; have h2 := hv.t8; have h3 := hv.n1; have h4 := hv.n10; have h5 := hv.s0; have h6 := hv.s1
  refine ⟨by omega, hv.len, fun q hq => ?_⟩
  obtain ⟨k1, k2, k3, k4⟩ := hv.rules q hq
  refine ⟨by omega, k3, fun s hs => ?_⟩
  have k5 := k4 s hs
  split at k5 <;> omega
theorem same_true (g h : Gram) (A A' : Option Addr) (c c' : Nat) (S S' : Nat → Prop) (w : World) (e : g = h) (hc : g.rules.length ≤ c ∧ c ≤ 9223372036854775807) (hc' : h.rules.length ≤ c' ∧ c' ≤ 9223372036854775807) (hA : Els w S g.rules A) (hA' : Els w S' h.rules A') :
    Calls Tryd.prog 16 #[.agg #[.int .i64 g.terms, .int .i64 g.nons, .int .i64 g.start, .slice A g.rules.length c], .agg #[.int .i64 h.terms, .int .i64 h.nons, .int .i64 h.start, .slice A' h.rules.length c']] w fun e w' => e = .returned (.bool true) ∧ Below w.heap.size w w' :=
  (sameGram_any g h A A' c c' S S' w hc hc' hA hA').mono fun e' w' h => ⟨by rw [h.1, decide_eq_true e], h.2⟩
/-- Two nonterminals in boxes of their own. -/
def TwoSym (x y : Int) (w : World) (p q : Value) (wx : World) : Prop :=
  ∃ b1 b2 : Nat, p = .pointer (some ⟨b1, 0, none⟩) ∧ q = .pointer (some ⟨b2, 0, none⟩) ∧ Blk' wx b1 31 #[.bool false, .int .i64 x] ∧ Blk' wx b2 31 #[.bool false, .int .i64 y] ∧ Below w.heap.size w wx

set_option maxRecDepth 100000 in
set_option maxHeartbeats 16000000 in
theorem closedSays_any (g h : Gram) (A B : Option Addr) (c d : Nat) (S : Nat → Prop) (w : World) (h64 : I64 g.terms ∧ I64 g.nons ∧ I64 g.start) (h64h : I64 h.terms ∧ I64 h.nons ∧ I64 h.start) (hlc : g.rules.length ≤ c) (hc : c ≤ 9223372036854775807) (hA : Els w S g.rules A) (hld : h.rules.length ≤ d) (hd : d ≤ 9223372036854775807) (hB : Els w S h.rules B) (hS : ∀ b, S b → b < w.heap.size) :
    Calls Tryd.prog 3 #[.agg #[.int .i64 g.terms, .int .i64 g.nons, .int .i64 g.start, .slice A g.rules.length c], .agg #[.int .i64 h.terms, .int .i64 h.nons, .int .i64 h.start, .slice B h.rules.length d]] w fun e w' => e = .returned (.bool true) ∧ Below w.heap.size w w' := by
  obtain ⟨E, hE⟩ : ∃ E, E = checkI g := ⟨_, rfl⟩
  obtain ⟨P, hP⟩ : ∃ P, P = pairE g h := ⟨_, rfl⟩
  obtain ⟨⟨⟨ut, un, us, ur⟩, ue⟩, hu⟩ : ∃ r, r = pairR g h (llU g.start (g.nons + h.start)) := ⟨_, rfl⟩
  obtain ⟨⟨⟨vt, vn, vs, vr⟩, ve⟩, hv⟩ : ∃ r, r = pairR g h (llC g.start (g.nons + h.start)) := ⟨_, rfl⟩
  obtain ⟨⟨⟨kt, kn, ks, kr⟩, ke⟩, hk⟩ : ∃ r, r = starR g := ⟨_, rfl⟩
  have HU := Lib.hid hu
  have HV := Lib.hid hv
  have HK := Lib.hid hk
  have HE := Lib.hid hE
  have HP := Lib.hid hP
  obtain ⟨sR, hsl, hsr⟩ := simple_star
  have HSR := Lib.hid (And.intro hsl hsr)
  clear hu hv hk hE hP hsl hsr
  obtain ⟨gt, gn, gs, rs⟩ := g
  obtain ⟨ht, hn, hs, rs2⟩ := h
  dsimp only at *
  have KEA_0 : Hid (Els w S rs A) := Lib.hid (hA)
  have KEB_0 : Hid (Els w S rs2 B) := Lib.hid (hB)
  have HS := Lib.hid hS
  have HI := Lib.hid (And.intro h64 h64h)
  clear hA hB hS h64 h64h
  obtain ⟨w_1, hww_1⟩ : ∃ w_1 : World, w_1 = (w.alloc (.cells #[.int .i64 gt, .int .i64 gn, .int .i64 gs, .slice A rs.length c] 24)).alloc (.cells #[.int .i64 ht, .int .i64 hn, .int .i64 hs, .slice B rs2.length d] 24) := ⟨_, rfl⟩
  have hbw_1 : Below w.heap.size w w_1 := by rw [hww_1]; exact ((Below.refl _ _).alloc (by first | exact Nat.le_refl _ | (simp; done) | (simp; omega)) _).alloc (by first | exact Nat.le_refl _ | (simp; done) | (simp; omega)) _
  have sqw_1 : w_1.heap.size = w.heap.size + 1 + 1 := by rw [hww_1]; simp
  have KEA_1 : Hid (Els w_1 S rs A) := Lib.hid (KEA_0.out.below hbw_1)
  have KEB_1 : Hid (Els w_1 S rs2 B) := Lib.hid (KEB_0.out.below hbw_1)
  have QB_1 : Hid (Below w.heap.size w w_1) := Lib.hid (hbw_1)
  have sz_1 : w.heap.size + 1 + 1 ≤ w_1.heap.size := by rw [sqw_1]; exact Nat.le_refl _
  have KA_1 : Hid (Blk' w_1 (w.heap.size) 24 #[.int .i64 gt, .int .i64 gn, .int .i64 gs, .slice A rs.length c]) := Lib.hid (by rw [hww_1]; exact (Blk'.new w _ _).alloc _)
  have KB_1 : Hid (Blk' w_1 (w.heap.size + 1) 24 #[.int .i64 ht, .int .i64 hn, .int .i64 hs, .slice B rs2.length d]) := Lib.hid (by rw [hww_1]; exact Blk'.new' (g := w.heap.size + 1) _ _ _ (by simp))
  have HWw_1 := Lib.hid hww_1
  have SQw_1 := Lib.hid sqw_1
  clear hww_1 hbw_1 sqw_1
  clear KEA_0 KEB_0
  go_enter Tryd.func3, Tryd.ntmps3
  go_upto_region 1 with (fail)
  rw [← HWw_1.out]
  go_wp2_with fail
  refine (simple_any _).mono ?_
  rintro e w_2 ⟨As, rfl, hEs, hbz⟩
  have HEs := Lib.hid hEs
  clear hEs
  have KEA_2 : Hid (Els w_2 S rs A) := Lib.hid (KEA_1.out.below hbz)
  have KEB_2 : Hid (Els w_2 S rs2 B) := Lib.hid (KEB_1.out.below hbz)
  have KA_2 : Hid (Blk' w_2 (w.heap.size) 24 #[.int .i64 gt, .int .i64 gn, .int .i64 gs, .slice A rs.length c]) := Lib.hid (KA_1.out.below hbz KA_1.out.lt)
  have KB_2 : Hid (Blk' w_2 (w.heap.size + 1) 24 #[.int .i64 ht, .int .i64 hn, .int .i64 hs, .slice B rs2.length d]) := Lib.hid (KB_1.out.below hbz KB_1.out.lt)
  have QB_2 : Hid (Below w.heap.size w w_2) := Lib.hid (bthen QB_1.out hbz QB_1.out.size)
  have sz_2 : w_1.heap.size ≤ w_2.heap.size := (hbz).size
  clear hbz
  clear KEA_1 KEB_1 KA_1 KB_1 QB_1
  go_wp2_with fail
  refine (starP_any simpleG As 2 _ _ (by simp [I64, simpleG]) (by decide) (by omega) HEs.out (fun b hb => hb.2)).mono ?_
  rintro e w_3 ⟨A3, c3, he, hl3, hc3, hE3, hbz⟩
  rw [HSR.out.2] at he hl3 hE3
  subst he
  dsimp only at hl3 hE3
  clear hE3
  have KEA_3 : Hid (Els w_3 S rs A) := Lib.hid (KEA_2.out.below hbz)
  have KEB_3 : Hid (Els w_3 S rs2 B) := Lib.hid (KEB_2.out.below hbz)
  have KA_3 : Hid (Blk' w_3 (w.heap.size) 24 #[.int .i64 gt, .int .i64 gn, .int .i64 gs, .slice A rs.length c]) := Lib.hid (KA_2.out.below hbz KA_2.out.lt)
  have KB_3 : Hid (Blk' w_3 (w.heap.size + 1) 24 #[.int .i64 ht, .int .i64 hn, .int .i64 hs, .slice B rs2.length d]) := Lib.hid (KB_2.out.below hbz KB_2.out.lt)
  have QB_3 : Hid (Below w.heap.size w w_3) := Lib.hid (bthen QB_2.out hbz QB_2.out.size)
  have sz_3 : w_2.heap.size ≤ w_3.heap.size := (hbz).size
  clear hbz
  clear KEA_2 KEB_2 KA_2 KB_2 QB_2
  rw [HSR.out.1] at hl3 ⊢
  obtain ⟨w_4, hww_4⟩ : ∃ w_4 : World, w_4 = w_3.alloc (.cells #[.int .i64 1, .int .i64 2, .int .i64 1, .slice A3 4 c3] 24) := ⟨_, rfl⟩
  have hbw_4 : Below w_3.heap.size w_3 w_4 := by rw [hww_4]; exact (Below.refl _ _).alloc (by first | exact Nat.le_refl _ | (simp; done) | (simp; omega)) _
  have sqw_4 : w_4.heap.size = w_3.heap.size + 1 := by rw [hww_4]; simp
  have KEA_4 : Hid (Els w_4 S rs A) := Lib.hid (KEA_3.out.below hbw_4)
  have KEB_4 : Hid (Els w_4 S rs2 B) := Lib.hid (KEB_3.out.below hbw_4)
  have KA_4 : Hid (Blk' w_4 (w.heap.size) 24 #[.int .i64 gt, .int .i64 gn, .int .i64 gs, .slice A rs.length c]) := Lib.hid (KA_3.out.below hbw_4 KA_3.out.lt)
  have KB_4 : Hid (Blk' w_4 (w.heap.size + 1) 24 #[.int .i64 ht, .int .i64 hn, .int .i64 hs, .slice B rs2.length d]) := Lib.hid (KB_3.out.below hbw_4 KB_3.out.lt)
  have QB_4 : Hid (Below w.heap.size w w_4) := Lib.hid (bthen QB_3.out hbw_4 QB_3.out.size)
  have sz_4 : w_3.heap.size + 1 ≤ w_4.heap.size := by rw [sqw_4]; exact Nat.le_refl _
  have KX0_4 : Hid (Blk' w_4 (w_3.heap.size) 24 #[.int .i64 1, .int .i64 2, .int .i64 1, .slice A3 4 c3]) := Lib.hid (by rw [hww_4]; exact Blk'.new w_3 _ _)
  have HWw_4 := Lib.hid hww_4
  have SQw_4 := Lib.hid sqw_4
  clear hww_4 hbw_4 sqw_4
  clear KEA_3 KEB_3 KA_3 KB_3 QB_3
  go_upto_region 2 with (fail)
  rw [← HWw_4.out]
  have cX0_4_0 : w_4.cell? ⟨w_3.heap.size, 0, none⟩ = some (.int .i64 1) := KX0_4.out.cell 0
  have cX0_4_1 : w_4.cell? ⟨w_3.heap.size, 1, none⟩ = some (.int .i64 2) := KX0_4.out.cell 1
  have cX0_4_2 : w_4.cell? ⟨w_3.heap.size, 2, none⟩ = some (.int .i64 1) := KX0_4.out.cell 2
  have cX0_4_3 : w_4.cell? ⟨w_3.heap.size, 3, none⟩ = some (.slice A3 4 c3) := KX0_4.out.cell 3
  have zX0_4 : w_3.heap.size < w_4.heap.size := KX0_4.out.lt
  go_upto_region 4 with (fail)
  clear cX0_4_0 cX0_4_1 cX0_4_2 cX0_4_3 zX0_4
  have cA_4_0 : w_4.cell? ⟨w.heap.size, 0, none⟩ = some (.int .i64 gt) := KA_4.out.cell 0
  have cA_4_1 : w_4.cell? ⟨w.heap.size, 1, none⟩ = some (.int .i64 gn) := KA_4.out.cell 1
  have cA_4_2 : w_4.cell? ⟨w.heap.size, 2, none⟩ = some (.int .i64 gs) := KA_4.out.cell 2
  have cA_4_3 : w_4.cell? ⟨w.heap.size, 3, none⟩ = some (.slice A rs.length c) := KA_4.out.cell 3
  have zA_4 : w.heap.size < w_4.heap.size := KA_4.out.lt
  have cB_4_0 : w_4.cell? ⟨w.heap.size + 1, 0, none⟩ = some (.int .i64 ht) := KB_4.out.cell 0
  have cB_4_1 : w_4.cell? ⟨w.heap.size + 1, 1, none⟩ = some (.int .i64 hn) := KB_4.out.cell 1
  have cB_4_2 : w_4.cell? ⟨w.heap.size + 1, 2, none⟩ = some (.int .i64 hs) := KB_4.out.cell 2
  have cB_4_3 : w_4.cell? ⟨w.heap.size + 1, 3, none⟩ = some (.slice B rs2.length d) := KB_4.out.cell 3
  have zB_4 : w.heap.size + 1 < w_4.heap.size := KB_4.out.lt
  go_wp2_with fail
  refine (unionP_any ⟨gt, gn, gs, rs⟩ ⟨ht, hn, hs, rs2⟩ A B c d S _ HI.out.1 HI.out.2 hlc hc KEA_4.out hld hd KEB_4.out (fun b hb => by have := HS.out b hb; omega)).mono ?_
  rintro e w_5 ⟨AU, cU, heU, hlU, hcU, hEU, hbz⟩
  rw [← HU.out] at heU hlU hEU
  subst heU
  dsimp only at hlU hEU
  clear cA_4_0 cA_4_1 cA_4_2 cA_4_3 zA_4 cB_4_0 cB_4_1 cB_4_2 cB_4_3 zB_4
  have KEA_5 : Hid (Els w_5 S rs A) := Lib.hid (KEA_4.out.below hbz)
  have KEB_5 : Hid (Els w_5 S rs2 B) := Lib.hid (KEB_4.out.below hbz)
  have KA_5 : Hid (Blk' w_5 (w.heap.size) 24 #[.int .i64 gt, .int .i64 gn, .int .i64 gs, .slice A rs.length c]) := Lib.hid (KA_4.out.below hbz KA_4.out.lt)
  have KB_5 : Hid (Blk' w_5 (w.heap.size + 1) 24 #[.int .i64 ht, .int .i64 hn, .int .i64 hs, .slice B rs2.length d]) := Lib.hid (KB_4.out.below hbz KB_4.out.lt)
  have KX0_5 : Hid (Blk' w_5 (w_3.heap.size) 24 #[.int .i64 1, .int .i64 2, .int .i64 1, .slice A3 4 c3]) := Lib.hid (KX0_4.out.below hbz KX0_4.out.lt)
  have QB_5 : Hid (Below w.heap.size w w_5) := Lib.hid (bthen QB_4.out hbz QB_4.out.size)
  have sz_5 : w_4.heap.size ≤ w_5.heap.size := (hbz).size
  clear hbz
  clear KEA_4 KEB_4 KA_4 KB_4 KX0_4 QB_4
  have KEU_5 : Hid (Els w_5 (fun b => b < w_5.heap.size) ur AU) := Lib.hid (hEU.keep (fun _ _ _ => rfl) (fun _ h => h.2))
  clear hEU
  try dsimp only
  obtain ⟨w_6, hww_6⟩ : ∃ w_6 : World, w_6 = w_5.alloc (.cells #[.int .i64 ut, .int .i64 un, .int .i64 us, .slice AU ur.length cU] 24) := ⟨_, rfl⟩
  have hbw_6 : Below w_5.heap.size w_5 w_6 := by rw [hww_6]; exact (Below.refl _ _).alloc (by first | exact Nat.le_refl _ | (simp; done) | (simp; omega)) _
  have sqw_6 : w_6.heap.size = w_5.heap.size + 1 := by rw [hww_6]; simp
  have KEA_6 : Hid (Els w_6 S rs A) := Lib.hid (KEA_5.out.below hbw_6)
  have KEB_6 : Hid (Els w_6 S rs2 B) := Lib.hid (KEB_5.out.below hbw_6)
  have KA_6 : Hid (Blk' w_6 (w.heap.size) 24 #[.int .i64 gt, .int .i64 gn, .int .i64 gs, .slice A rs.length c]) := Lib.hid (KA_5.out.below hbw_6 KA_5.out.lt)
  have KB_6 : Hid (Blk' w_6 (w.heap.size + 1) 24 #[.int .i64 ht, .int .i64 hn, .int .i64 hs, .slice B rs2.length d]) := Lib.hid (KB_5.out.below hbw_6 KB_5.out.lt)
  have KX0_6 : Hid (Blk' w_6 (w_3.heap.size) 24 #[.int .i64 1, .int .i64 2, .int .i64 1, .slice A3 4 c3]) := Lib.hid (KX0_5.out.below hbw_6 KX0_5.out.lt)
  have KEU_6 : Hid (Els w_6 (fun b => b < w_5.heap.size) ur AU) := Lib.hid (KEU_5.out.below hbw_6)
  have QB_6 : Hid (Below w.heap.size w w_6) := Lib.hid (bthen QB_5.out hbw_6 QB_5.out.size)
  have sz_6 : w_5.heap.size + 1 ≤ w_6.heap.size := by rw [sqw_6]; exact Nat.le_refl _
  have KU_6 : Hid (Blk' w_6 (w_5.heap.size) 24 #[.int .i64 ut, .int .i64 un, .int .i64 us, .slice AU ur.length cU]) := Lib.hid (by rw [hww_6]; exact Blk'.new w_5 _ _)
  have HWw_6 := Lib.hid hww_6
  have SQw_6 := Lib.hid sqw_6
  clear hww_6 hbw_6 sqw_6
  clear KEA_5 KEB_5 KA_5 KB_5 KX0_5 KEU_5 QB_5
  go_upto_region 5 with (fail)
  rw [← HWw_6.out]
  have cA_6_0 : w_6.cell? ⟨w.heap.size, 0, none⟩ = some (.int .i64 gt) := KA_6.out.cell 0
  have cA_6_1 : w_6.cell? ⟨w.heap.size, 1, none⟩ = some (.int .i64 gn) := KA_6.out.cell 1
  have cA_6_2 : w_6.cell? ⟨w.heap.size, 2, none⟩ = some (.int .i64 gs) := KA_6.out.cell 2
  have cA_6_3 : w_6.cell? ⟨w.heap.size, 3, none⟩ = some (.slice A rs.length c) := KA_6.out.cell 3
  have zA_6 : w.heap.size < w_6.heap.size := KA_6.out.lt
  have cB_6_0 : w_6.cell? ⟨w.heap.size + 1, 0, none⟩ = some (.int .i64 ht) := KB_6.out.cell 0
  have cB_6_1 : w_6.cell? ⟨w.heap.size + 1, 1, none⟩ = some (.int .i64 hn) := KB_6.out.cell 1
  have cB_6_2 : w_6.cell? ⟨w.heap.size + 1, 2, none⟩ = some (.int .i64 hs) := KB_6.out.cell 2
  have cB_6_3 : w_6.cell? ⟨w.heap.size + 1, 3, none⟩ = some (.slice B rs2.length d) := KB_6.out.cell 3
  have zB_6 : w.heap.size + 1 < w_6.heap.size := KB_6.out.lt
  go_wp2_with fail
  refine (concatP_any ⟨gt, gn, gs, rs⟩ ⟨ht, hn, hs, rs2⟩ A B c d S _ HI.out.1 HI.out.2 hlc hc KEA_6.out hld hd KEB_6.out (fun b hb => by have := HS.out b hb; omega)).mono ?_
  rintro e w_7 ⟨AV, cV, heV, hlV, hcV, hEV, hbz⟩
  rw [← HV.out] at heV hlV hEV
  subst heV
  dsimp only at hlV hEV
  clear cA_6_0 cA_6_1 cA_6_2 cA_6_3 zA_6 cB_6_0 cB_6_1 cB_6_2 cB_6_3 zB_6
  have KEA_7 : Hid (Els w_7 S rs A) := Lib.hid (KEA_6.out.below hbz)
  have KEB_7 : Hid (Els w_7 S rs2 B) := Lib.hid (KEB_6.out.below hbz)
  have KA_7 : Hid (Blk' w_7 (w.heap.size) 24 #[.int .i64 gt, .int .i64 gn, .int .i64 gs, .slice A rs.length c]) := Lib.hid (KA_6.out.below hbz KA_6.out.lt)
  have KB_7 : Hid (Blk' w_7 (w.heap.size + 1) 24 #[.int .i64 ht, .int .i64 hn, .int .i64 hs, .slice B rs2.length d]) := Lib.hid (KB_6.out.below hbz KB_6.out.lt)
  have KX0_7 : Hid (Blk' w_7 (w_3.heap.size) 24 #[.int .i64 1, .int .i64 2, .int .i64 1, .slice A3 4 c3]) := Lib.hid (KX0_6.out.below hbz KX0_6.out.lt)
  have KEU_7 : Hid (Els w_7 (fun b => b < w_5.heap.size) ur AU) := Lib.hid (KEU_6.out.below hbz)
  have KU_7 : Hid (Blk' w_7 (w_5.heap.size) 24 #[.int .i64 ut, .int .i64 un, .int .i64 us, .slice AU ur.length cU]) := Lib.hid (KU_6.out.below hbz KU_6.out.lt)
  have QB_7 : Hid (Below w.heap.size w w_7) := Lib.hid (bthen QB_6.out hbz QB_6.out.size)
  have sz_7 : w_6.heap.size ≤ w_7.heap.size := (hbz).size
  clear hbz
  clear KEA_6 KEB_6 KA_6 KB_6 KX0_6 KEU_6 KU_6 QB_6
  have KEV_7 : Hid (Els w_7 (fun b => b < w_7.heap.size) vr AV) := Lib.hid (hEV.keep (fun _ _ _ => rfl) (fun _ h => h.2))
  clear hEV
  try dsimp only
  obtain ⟨w_8, hww_8⟩ : ∃ w_8 : World, w_8 = w_7.alloc (.cells #[.int .i64 vt, .int .i64 vn, .int .i64 vs, .slice AV vr.length cV] 24) := ⟨_, rfl⟩
  have hbw_8 : Below w_7.heap.size w_7 w_8 := by rw [hww_8]; exact (Below.refl _ _).alloc (by first | exact Nat.le_refl _ | (simp; done) | (simp; omega)) _
  have sqw_8 : w_8.heap.size = w_7.heap.size + 1 := by rw [hww_8]; simp
  have KEA_8 : Hid (Els w_8 S rs A) := Lib.hid (KEA_7.out.below hbw_8)
  have KEB_8 : Hid (Els w_8 S rs2 B) := Lib.hid (KEB_7.out.below hbw_8)
  have KA_8 : Hid (Blk' w_8 (w.heap.size) 24 #[.int .i64 gt, .int .i64 gn, .int .i64 gs, .slice A rs.length c]) := Lib.hid (KA_7.out.below hbw_8 KA_7.out.lt)
  have KB_8 : Hid (Blk' w_8 (w.heap.size + 1) 24 #[.int .i64 ht, .int .i64 hn, .int .i64 hs, .slice B rs2.length d]) := Lib.hid (KB_7.out.below hbw_8 KB_7.out.lt)
  have KX0_8 : Hid (Blk' w_8 (w_3.heap.size) 24 #[.int .i64 1, .int .i64 2, .int .i64 1, .slice A3 4 c3]) := Lib.hid (KX0_7.out.below hbw_8 KX0_7.out.lt)
  have KEU_8 : Hid (Els w_8 (fun b => b < w_5.heap.size) ur AU) := Lib.hid (KEU_7.out.below hbw_8)
  have KU_8 : Hid (Blk' w_8 (w_5.heap.size) 24 #[.int .i64 ut, .int .i64 un, .int .i64 us, .slice AU ur.length cU]) := Lib.hid (KU_7.out.below hbw_8 KU_7.out.lt)
  have KEV_8 : Hid (Els w_8 (fun b => b < w_7.heap.size) vr AV) := Lib.hid (KEV_7.out.below hbw_8)
  have QB_8 : Hid (Below w.heap.size w w_8) := Lib.hid (bthen QB_7.out hbw_8 QB_7.out.size)
  have sz_8 : w_7.heap.size + 1 ≤ w_8.heap.size := by rw [sqw_8]; exact Nat.le_refl _
  have KV_8 : Hid (Blk' w_8 (w_7.heap.size) 24 #[.int .i64 vt, .int .i64 vn, .int .i64 vs, .slice AV vr.length cV]) := Lib.hid (by rw [hww_8]; exact Blk'.new w_7 _ _)
  have HWw_8 := Lib.hid hww_8
  have SQw_8 := Lib.hid sqw_8
  clear hww_8 hbw_8 sqw_8
  clear KEA_7 KEB_7 KA_7 KB_7 KX0_7 KEU_7 KU_7 KEV_7 QB_7
  go_upto_region 6 with (fail)
  rw [← HWw_8.out]
  have cA_8_0 : w_8.cell? ⟨w.heap.size, 0, none⟩ = some (.int .i64 gt) := KA_8.out.cell 0
  have cA_8_1 : w_8.cell? ⟨w.heap.size, 1, none⟩ = some (.int .i64 gn) := KA_8.out.cell 1
  have cA_8_2 : w_8.cell? ⟨w.heap.size, 2, none⟩ = some (.int .i64 gs) := KA_8.out.cell 2
  have cA_8_3 : w_8.cell? ⟨w.heap.size, 3, none⟩ = some (.slice A rs.length c) := KA_8.out.cell 3
  have zA_8 : w.heap.size < w_8.heap.size := KA_8.out.lt
  have cB_8_0 : w_8.cell? ⟨w.heap.size + 1, 0, none⟩ = some (.int .i64 ht) := KB_8.out.cell 0
  have cB_8_1 : w_8.cell? ⟨w.heap.size + 1, 1, none⟩ = some (.int .i64 hn) := KB_8.out.cell 1
  have cB_8_2 : w_8.cell? ⟨w.heap.size + 1, 2, none⟩ = some (.int .i64 hs) := KB_8.out.cell 2
  have cB_8_3 : w_8.cell? ⟨w.heap.size + 1, 3, none⟩ = some (.slice B rs2.length d) := KB_8.out.cell 3
  have zB_8 : w.heap.size + 1 < w_8.heap.size := KB_8.out.lt
  go_wp2_with fail
  refine (starP_any ⟨gt, gn, gs, rs⟩ A c S _ HI.out.1 hlc hc KEA_8.out (fun b hb => by have := HS.out b hb; omega)).mono ?_
  rintro e w_9 ⟨AK, cK, heK, hlK, hcK, hEK, hbz⟩
  rw [← HK.out] at heK hlK hEK
  subst heK
  dsimp only at hlK hEK
  clear cA_8_0 cA_8_1 cA_8_2 cA_8_3 zA_8 cB_8_0 cB_8_1 cB_8_2 cB_8_3 zB_8
  have KEA_9 : Hid (Els w_9 S rs A) := Lib.hid (KEA_8.out.below hbz)
  have KEB_9 : Hid (Els w_9 S rs2 B) := Lib.hid (KEB_8.out.below hbz)
  have KA_9 : Hid (Blk' w_9 (w.heap.size) 24 #[.int .i64 gt, .int .i64 gn, .int .i64 gs, .slice A rs.length c]) := Lib.hid (KA_8.out.below hbz KA_8.out.lt)
  have KB_9 : Hid (Blk' w_9 (w.heap.size + 1) 24 #[.int .i64 ht, .int .i64 hn, .int .i64 hs, .slice B rs2.length d]) := Lib.hid (KB_8.out.below hbz KB_8.out.lt)
  have KX0_9 : Hid (Blk' w_9 (w_3.heap.size) 24 #[.int .i64 1, .int .i64 2, .int .i64 1, .slice A3 4 c3]) := Lib.hid (KX0_8.out.below hbz KX0_8.out.lt)
  have KEU_9 : Hid (Els w_9 (fun b => b < w_5.heap.size) ur AU) := Lib.hid (KEU_8.out.below hbz)
  have KU_9 : Hid (Blk' w_9 (w_5.heap.size) 24 #[.int .i64 ut, .int .i64 un, .int .i64 us, .slice AU ur.length cU]) := Lib.hid (KU_8.out.below hbz KU_8.out.lt)
  have KEV_9 : Hid (Els w_9 (fun b => b < w_7.heap.size) vr AV) := Lib.hid (KEV_8.out.below hbz)
  have KV_9 : Hid (Blk' w_9 (w_7.heap.size) 24 #[.int .i64 vt, .int .i64 vn, .int .i64 vs, .slice AV vr.length cV]) := Lib.hid (KV_8.out.below hbz KV_8.out.lt)
  have QB_9 : Hid (Below w.heap.size w w_9) := Lib.hid (bthen QB_8.out hbz QB_8.out.size)
  have sz_9 : w_8.heap.size ≤ w_9.heap.size := (hbz).size
  clear hbz
  clear KEA_8 KEB_8 KA_8 KB_8 KX0_8 KEU_8 KU_8 KEV_8 KV_8 QB_8
  have KEK_9 : Hid (Els w_9 (fun b => b < w_9.heap.size) kr AK) := Lib.hid (hEK.keep (fun _ _ _ => rfl) (fun _ h => h.2))
  clear hEK
  try dsimp only
  obtain ⟨w_10, hww_10⟩ : ∃ w_10 : World, w_10 = w_9.alloc (.cells #[.int .i64 kt, .int .i64 kn, .int .i64 ks, .slice AK kr.length cK] 24) := ⟨_, rfl⟩
  have hbw_10 : Below w_9.heap.size w_9 w_10 := by rw [hww_10]; exact (Below.refl _ _).alloc (by first | exact Nat.le_refl _ | (simp; done) | (simp; omega)) _
  have sqw_10 : w_10.heap.size = w_9.heap.size + 1 := by rw [hww_10]; simp
  have KEA_10 : Hid (Els w_10 S rs A) := Lib.hid (KEA_9.out.below hbw_10)
  have KEB_10 : Hid (Els w_10 S rs2 B) := Lib.hid (KEB_9.out.below hbw_10)
  have KA_10 : Hid (Blk' w_10 (w.heap.size) 24 #[.int .i64 gt, .int .i64 gn, .int .i64 gs, .slice A rs.length c]) := Lib.hid (KA_9.out.below hbw_10 KA_9.out.lt)
  have KB_10 : Hid (Blk' w_10 (w.heap.size + 1) 24 #[.int .i64 ht, .int .i64 hn, .int .i64 hs, .slice B rs2.length d]) := Lib.hid (KB_9.out.below hbw_10 KB_9.out.lt)
  have KX0_10 : Hid (Blk' w_10 (w_3.heap.size) 24 #[.int .i64 1, .int .i64 2, .int .i64 1, .slice A3 4 c3]) := Lib.hid (KX0_9.out.below hbw_10 KX0_9.out.lt)
  have KEU_10 : Hid (Els w_10 (fun b => b < w_5.heap.size) ur AU) := Lib.hid (KEU_9.out.below hbw_10)
  have KU_10 : Hid (Blk' w_10 (w_5.heap.size) 24 #[.int .i64 ut, .int .i64 un, .int .i64 us, .slice AU ur.length cU]) := Lib.hid (KU_9.out.below hbw_10 KU_9.out.lt)
  have KEV_10 : Hid (Els w_10 (fun b => b < w_7.heap.size) vr AV) := Lib.hid (KEV_9.out.below hbw_10)
  have KV_10 : Hid (Blk' w_10 (w_7.heap.size) 24 #[.int .i64 vt, .int .i64 vn, .int .i64 vs, .slice AV vr.length cV]) := Lib.hid (KV_9.out.below hbw_10 KV_9.out.lt)
  have KEK_10 : Hid (Els w_10 (fun b => b < w_9.heap.size) kr AK) := Lib.hid (KEK_9.out.below hbw_10)
  have QB_10 : Hid (Below w.heap.size w w_10) := Lib.hid (bthen QB_9.out hbw_10 QB_9.out.size)
  have sz_10 : w_9.heap.size + 1 ≤ w_10.heap.size := by rw [sqw_10]; exact Nat.le_refl _
  have KK_10 : Hid (Blk' w_10 (w_9.heap.size) 24 #[.int .i64 kt, .int .i64 kn, .int .i64 ks, .slice AK kr.length cK]) := Lib.hid (by rw [hww_10]; exact Blk'.new w_9 _ _)
  have HWw_10 := Lib.hid hww_10
  have SQw_10 := Lib.hid sqw_10
  clear hww_10 hbw_10 sqw_10
  clear KEA_9 KEB_9 KA_9 KB_9 KX0_9 KEU_9 KU_9 KEV_9 KV_9 KEK_9 QB_9
  go_upto_region 7 with (fail)
  rw [← HWw_10.out]
  go_cut [13, 14] (fun p q wx => TwoSym gs (wrap64 (gn + hs)) w_10 p q wx)
  case first =>
    have cA_10_0 : w_10.cell? ⟨w.heap.size, 0, none⟩ = some (.int .i64 gt) := KA_10.out.cell 0
    have cA_10_1 : w_10.cell? ⟨w.heap.size, 1, none⟩ = some (.int .i64 gn) := KA_10.out.cell 1
    have cA_10_2 : w_10.cell? ⟨w.heap.size, 2, none⟩ = some (.int .i64 gs) := KA_10.out.cell 2
    have cA_10_3 : w_10.cell? ⟨w.heap.size, 3, none⟩ = some (.slice A rs.length c) := KA_10.out.cell 3
    have zA_10 : w.heap.size < w_10.heap.size := KA_10.out.lt
    have cB_10_0 : w_10.cell? ⟨w.heap.size + 1, 0, none⟩ = some (.int .i64 ht) := KB_10.out.cell 0
    have cB_10_1 : w_10.cell? ⟨w.heap.size + 1, 1, none⟩ = some (.int .i64 hn) := KB_10.out.cell 1
    have cB_10_2 : w_10.cell? ⟨w.heap.size + 1, 2, none⟩ = some (.int .i64 hs) := KB_10.out.cell 2
    have cB_10_3 : w_10.cell? ⟨w.heap.size + 1, 3, none⟩ = some (.slice B rs2.length d) := KB_10.out.cell 3
    have zB_10 : w.heap.size + 1 < w_10.heap.size := KB_10.out.lt
    go_region
    all_goals
      go_wp2_with fail
      go_meet
      first
      | (refine ⟨w_10.heap.size, w_10.heap.size + 1, rfl, rfl, ?_, ?_, (((Below.refl _ _).alloc (by first | exact Nat.le_refl _ | (simp; done) | (simp; omega)) _).alloc (by first | exact Nat.le_refl _ | (simp; done) | (simp; omega)) _).drew⟩ <;> first | exact (Blk'.new _ _ _).alloc _ | exact Blk'.new' _ _ _ (by simp))
      | (refine ⟨w_10.heap.size + 1, w_10.heap.size, rfl, rfl, ?_, ?_, (((Below.refl _ _).alloc (by first | exact Nat.le_refl _ | (simp; done) | (simp; omega)) _).alloc (by first | exact Nat.le_refl _ | (simp; done) | (simp; omega)) _).drew⟩ <;> first | exact (Blk'.new _ _ _).alloc _ | exact Blk'.new' _ _ _ (by simp))
  case rest =>
    obtain ⟨b1, b2, rfl, rfl, hs1, hs2, hbz⟩ := hcut
    have KEA_11 : Hid (Els wc S rs A) := Lib.hid (KEA_10.out.below hbz)
    have KEB_11 : Hid (Els wc S rs2 B) := Lib.hid (KEB_10.out.below hbz)
    have KA_11 : Hid (Blk' wc (w.heap.size) 24 #[.int .i64 gt, .int .i64 gn, .int .i64 gs, .slice A rs.length c]) := Lib.hid (KA_10.out.below hbz KA_10.out.lt)
    have KB_11 : Hid (Blk' wc (w.heap.size + 1) 24 #[.int .i64 ht, .int .i64 hn, .int .i64 hs, .slice B rs2.length d]) := Lib.hid (KB_10.out.below hbz KB_10.out.lt)
    have KX0_11 : Hid (Blk' wc (w_3.heap.size) 24 #[.int .i64 1, .int .i64 2, .int .i64 1, .slice A3 4 c3]) := Lib.hid (KX0_10.out.below hbz KX0_10.out.lt)
    have KEU_11 : Hid (Els wc (fun b => b < w_5.heap.size) ur AU) := Lib.hid (KEU_10.out.below hbz)
    have KU_11 : Hid (Blk' wc (w_5.heap.size) 24 #[.int .i64 ut, .int .i64 un, .int .i64 us, .slice AU ur.length cU]) := Lib.hid (KU_10.out.below hbz KU_10.out.lt)
    have KEV_11 : Hid (Els wc (fun b => b < w_7.heap.size) vr AV) := Lib.hid (KEV_10.out.below hbz)
    have KV_11 : Hid (Blk' wc (w_7.heap.size) 24 #[.int .i64 vt, .int .i64 vn, .int .i64 vs, .slice AV vr.length cV]) := Lib.hid (KV_10.out.below hbz KV_10.out.lt)
    have KEK_11 : Hid (Els wc (fun b => b < w_9.heap.size) kr AK) := Lib.hid (KEK_10.out.below hbz)
    have KK_11 : Hid (Blk' wc (w_9.heap.size) 24 #[.int .i64 kt, .int .i64 kn, .int .i64 ks, .slice AK kr.length cK]) := Lib.hid (KK_10.out.below hbz KK_10.out.lt)
    have QB_11 : Hid (Below w.heap.size w wc) := Lib.hid (bthen QB_10.out hbz QB_10.out.size)
    have sz_11 : w_10.heap.size ≤ wc.heap.size := (hbz).size
    have KS1_11 : Hid (Blk' wc (b1) 31 #[.bool false, .int .i64 gs]) := Lib.hid (hs1)
    have KS2_11 : Hid (Blk' wc (b2) 31 #[.bool false, .int .i64 (wrap64 (gn + hs))]) := Lib.hid (hs2)
    clear hs1 hs2 hbz
    clear KEA_10 KEB_10 KA_10 KB_10 KX0_10 KEU_10 KU_10 KEV_10 KV_10 KEK_10 KK_10 QB_10
    have hz1 : b1 < wc.heap.size := KS1_11.out.lt
    have hz2 : b2 < wc.heap.size := KS2_11.out.lt
    have cA_11_0 : wc.cell? ⟨w.heap.size, 0, none⟩ = some (.int .i64 gt) := KA_11.out.cell 0
    have cA_11_1 : wc.cell? ⟨w.heap.size, 1, none⟩ = some (.int .i64 gn) := KA_11.out.cell 1
    have cA_11_2 : wc.cell? ⟨w.heap.size, 2, none⟩ = some (.int .i64 gs) := KA_11.out.cell 2
    have cA_11_3 : wc.cell? ⟨w.heap.size, 3, none⟩ = some (.slice A rs.length c) := KA_11.out.cell 3
    have zA_11 : w.heap.size < wc.heap.size := KA_11.out.lt
    go_wp2_with fail
    refine (gramErr_any ⟨gt, gn, gs, rs⟩ A c S _ HI.out.1 hlc hc KEA_11.out (fun b hb => by have := HS.out b hb; omega)).mono ?_
    rintro e w_12 ⟨rfl, hbz⟩
    clear cA_11_0 cA_11_1 cA_11_2 cA_11_3 zA_11
    have KEA_12 : Hid (Els w_12 S rs A) := Lib.hid (KEA_11.out.below hbz)
    have KEB_12 : Hid (Els w_12 S rs2 B) := Lib.hid (KEB_11.out.below hbz)
    have KA_12 : Hid (Blk' w_12 (w.heap.size) 24 #[.int .i64 gt, .int .i64 gn, .int .i64 gs, .slice A rs.length c]) := Lib.hid (KA_11.out.below hbz KA_11.out.lt)
    have KB_12 : Hid (Blk' w_12 (w.heap.size + 1) 24 #[.int .i64 ht, .int .i64 hn, .int .i64 hs, .slice B rs2.length d]) := Lib.hid (KB_11.out.below hbz KB_11.out.lt)
    have KX0_12 : Hid (Blk' w_12 (w_3.heap.size) 24 #[.int .i64 1, .int .i64 2, .int .i64 1, .slice A3 4 c3]) := Lib.hid (KX0_11.out.below hbz KX0_11.out.lt)
    have KEU_12 : Hid (Els w_12 (fun b => b < w_5.heap.size) ur AU) := Lib.hid (KEU_11.out.below hbz)
    have KU_12 : Hid (Blk' w_12 (w_5.heap.size) 24 #[.int .i64 ut, .int .i64 un, .int .i64 us, .slice AU ur.length cU]) := Lib.hid (KU_11.out.below hbz KU_11.out.lt)
    have KEV_12 : Hid (Els w_12 (fun b => b < w_7.heap.size) vr AV) := Lib.hid (KEV_11.out.below hbz)
    have KV_12 : Hid (Blk' w_12 (w_7.heap.size) 24 #[.int .i64 vt, .int .i64 vn, .int .i64 vs, .slice AV vr.length cV]) := Lib.hid (KV_11.out.below hbz KV_11.out.lt)
    have KEK_12 : Hid (Els w_12 (fun b => b < w_9.heap.size) kr AK) := Lib.hid (KEK_11.out.below hbz)
    have KK_12 : Hid (Blk' w_12 (w_9.heap.size) 24 #[.int .i64 kt, .int .i64 kn, .int .i64 ks, .slice AK kr.length cK]) := Lib.hid (KK_11.out.below hbz KK_11.out.lt)
    have KS1_12 : Hid (Blk' w_12 (b1) 31 #[.bool false, .int .i64 gs]) := Lib.hid (KS1_11.out.below hbz KS1_11.out.lt)
    have KS2_12 : Hid (Blk' w_12 (b2) 31 #[.bool false, .int .i64 (wrap64 (gn + hs))]) := Lib.hid (KS2_11.out.below hbz KS2_11.out.lt)
    have QB_12 : Hid (Below w.heap.size w w_12) := Lib.hid (bthen QB_11.out hbz QB_11.out.size)
    have sz_12 : wc.heap.size ≤ w_12.heap.size := (hbz).size
    clear hbz
    clear KEA_11 KEB_11 KA_11 KB_11 KX0_11 KEU_11 KU_11 KEV_11 KV_11 KEK_11 KK_11 KS1_11 KS2_11 QB_11
    rw [← HE.out]
    obtain ⟨w_13, hww_13⟩ : ∃ w_13 : World, w_13 = w_12.alloc (.cells #[.int .i64 0, .int .i64 0, .int .i64 0, .slice none 0 0] 24) := ⟨_, rfl⟩
    have hbw_13 : Below w_12.heap.size w_12 w_13 := by rw [hww_13]; exact (Below.refl _ _).alloc (by first | exact Nat.le_refl _ | (simp; done) | (simp; omega)) _
    have sqw_13 : w_13.heap.size = w_12.heap.size + 1 := by rw [hww_13]; simp
    have KEA_13 : Hid (Els w_13 S rs A) := Lib.hid (KEA_12.out.below hbw_13)
    have KEB_13 : Hid (Els w_13 S rs2 B) := Lib.hid (KEB_12.out.below hbw_13)
    have KA_13 : Hid (Blk' w_13 (w.heap.size) 24 #[.int .i64 gt, .int .i64 gn, .int .i64 gs, .slice A rs.length c]) := Lib.hid (KA_12.out.below hbw_13 KA_12.out.lt)
    have KB_13 : Hid (Blk' w_13 (w.heap.size + 1) 24 #[.int .i64 ht, .int .i64 hn, .int .i64 hs, .slice B rs2.length d]) := Lib.hid (KB_12.out.below hbw_13 KB_12.out.lt)
    have KX0_13 : Hid (Blk' w_13 (w_3.heap.size) 24 #[.int .i64 1, .int .i64 2, .int .i64 1, .slice A3 4 c3]) := Lib.hid (KX0_12.out.below hbw_13 KX0_12.out.lt)
    have KEU_13 : Hid (Els w_13 (fun b => b < w_5.heap.size) ur AU) := Lib.hid (KEU_12.out.below hbw_13)
    have KU_13 : Hid (Blk' w_13 (w_5.heap.size) 24 #[.int .i64 ut, .int .i64 un, .int .i64 us, .slice AU ur.length cU]) := Lib.hid (KU_12.out.below hbw_13 KU_12.out.lt)
    have KEV_13 : Hid (Els w_13 (fun b => b < w_7.heap.size) vr AV) := Lib.hid (KEV_12.out.below hbw_13)
    have KV_13 : Hid (Blk' w_13 (w_7.heap.size) 24 #[.int .i64 vt, .int .i64 vn, .int .i64 vs, .slice AV vr.length cV]) := Lib.hid (KV_12.out.below hbw_13 KV_12.out.lt)
    have KEK_13 : Hid (Els w_13 (fun b => b < w_9.heap.size) kr AK) := Lib.hid (KEK_12.out.below hbw_13)
    have KK_13 : Hid (Blk' w_13 (w_9.heap.size) 24 #[.int .i64 kt, .int .i64 kn, .int .i64 ks, .slice AK kr.length cK]) := Lib.hid (KK_12.out.below hbw_13 KK_12.out.lt)
    have KS1_13 : Hid (Blk' w_13 (b1) 31 #[.bool false, .int .i64 gs]) := Lib.hid (KS1_12.out.below hbw_13 KS1_12.out.lt)
    have KS2_13 : Hid (Blk' w_13 (b2) 31 #[.bool false, .int .i64 (wrap64 (gn + hs))]) := Lib.hid (KS2_12.out.below hbw_13 KS2_12.out.lt)
    have QB_13 : Hid (Below w.heap.size w w_13) := Lib.hid (bthen QB_12.out hbw_13 QB_12.out.size)
    have sz_13 : w_12.heap.size + 1 ≤ w_13.heap.size := by rw [sqw_13]; exact Nat.le_refl _
    have KZ_13 : Hid (Blk' w_13 (w_12.heap.size) 24 #[.int .i64 0, .int .i64 0, .int .i64 0, .slice none 0 0]) := Lib.hid (by rw [hww_13]; exact Blk'.new w_12 _ _)
    have HWw_13 := Lib.hid hww_13
    have SQw_13 := Lib.hid sqw_13
    clear hww_13 hbw_13 sqw_13
    clear KEA_12 KEB_12 KA_12 KB_12 KX0_12 KEU_12 KU_12 KEV_12 KV_12 KEK_12 KK_12 KS1_12 KS2_12 QB_12
    go_upto_region 10 with (fail)
    rw [← HWw_13.out]
    by_cases hE0 : E = 0
    · subst hE0
      have hvg := validG_of HE.out.symm
      have HVg := Lib.hid hvg
      clear hvg
      have HKs : Hid ((⟨⟨kt, kn, ks, kr⟩, ke⟩ : Gram × Int) = mkR (starG ⟨gt, gn, gs, rs⟩)) := Lib.hid (by rw [HK.out]; unfold starR; rw [if_pos HE.out.symm])
      have hst0 := HVg.out.n1
      have hst1 := HVg.out.n10
      have hst2 := HVg.out.s0
      have hst3 := HVg.out.s1
      dsimp only at hst0 hst1 hst2 hst3
      have cA_13_0 : w_13.cell? ⟨w.heap.size, 0, none⟩ = some (.int .i64 gt) := KA_13.out.cell 0
      have cA_13_1 : w_13.cell? ⟨w.heap.size, 1, none⟩ = some (.int .i64 gn) := KA_13.out.cell 1
      have cA_13_2 : w_13.cell? ⟨w.heap.size, 2, none⟩ = some (.int .i64 gs) := KA_13.out.cell 2
      have cA_13_3 : w_13.cell? ⟨w.heap.size, 3, none⟩ = some (.slice A rs.length c) := KA_13.out.cell 3
      have zA_13 : w.heap.size < w_13.heap.size := KA_13.out.lt
      have cS1_13_0 : w_13.cell? ⟨b1, 0, none⟩ = some (.bool false) := KS1_13.out.cell 0
      have cS1_13_1 : w_13.cell? ⟨b1, 1, none⟩ = some (.int .i64 gs) := KS1_13.out.cell 1
      have zS1_13 : b1 < w_13.heap.size := KS1_13.out.lt
      obtain ⟨w_14, hww_14⟩ : ∃ w_14 : World, w_14 = (w_13.alloc (.cells #[.bool false, .int .i64 gn, .bool false, .int .i64 gs] 31)).alloc (.cells #[.int .i64 gn, .slice none 0 0, .int .i64 gn, .slice (some ⟨w_13.heap.size, 0, none⟩) 2 2] 36) := ⟨_, rfl⟩
      have hbw_14 : Below w_13.heap.size w_13 w_14 := by rw [hww_14]; exact ((Below.refl _ _).alloc (by first | exact Nat.le_refl _ | (simp; done) | (simp; omega)) _).alloc (by first | exact Nat.le_refl _ | (simp; done) | (simp; omega)) _
      have sqw_14 : w_14.heap.size = w_13.heap.size + 1 + 1 := by rw [hww_14]; simp
      have KEA_14 : Hid (Els w_14 S rs A) := Lib.hid (KEA_13.out.below hbw_14)
      have KEB_14 : Hid (Els w_14 S rs2 B) := Lib.hid (KEB_13.out.below hbw_14)
      have KA_14 : Hid (Blk' w_14 (w.heap.size) 24 #[.int .i64 gt, .int .i64 gn, .int .i64 gs, .slice A rs.length c]) := Lib.hid (KA_13.out.below hbw_14 KA_13.out.lt)
      have KB_14 : Hid (Blk' w_14 (w.heap.size + 1) 24 #[.int .i64 ht, .int .i64 hn, .int .i64 hs, .slice B rs2.length d]) := Lib.hid (KB_13.out.below hbw_14 KB_13.out.lt)
      have KX0_14 : Hid (Blk' w_14 (w_3.heap.size) 24 #[.int .i64 1, .int .i64 2, .int .i64 1, .slice A3 4 c3]) := Lib.hid (KX0_13.out.below hbw_14 KX0_13.out.lt)
      have KEU_14 : Hid (Els w_14 (fun b => b < w_5.heap.size) ur AU) := Lib.hid (KEU_13.out.below hbw_14)
      have KU_14 : Hid (Blk' w_14 (w_5.heap.size) 24 #[.int .i64 ut, .int .i64 un, .int .i64 us, .slice AU ur.length cU]) := Lib.hid (KU_13.out.below hbw_14 KU_13.out.lt)
      have KEV_14 : Hid (Els w_14 (fun b => b < w_7.heap.size) vr AV) := Lib.hid (KEV_13.out.below hbw_14)
      have KV_14 : Hid (Blk' w_14 (w_7.heap.size) 24 #[.int .i64 vt, .int .i64 vn, .int .i64 vs, .slice AV vr.length cV]) := Lib.hid (KV_13.out.below hbw_14 KV_13.out.lt)
      have KEK_14 : Hid (Els w_14 (fun b => b < w_9.heap.size) kr AK) := Lib.hid (KEK_13.out.below hbw_14)
      have KK_14 : Hid (Blk' w_14 (w_9.heap.size) 24 #[.int .i64 kt, .int .i64 kn, .int .i64 ks, .slice AK kr.length cK]) := Lib.hid (KK_13.out.below hbw_14 KK_13.out.lt)
      have KS1_14 : Hid (Blk' w_14 (b1) 31 #[.bool false, .int .i64 gs]) := Lib.hid (KS1_13.out.below hbw_14 KS1_13.out.lt)
      have KS2_14 : Hid (Blk' w_14 (b2) 31 #[.bool false, .int .i64 (wrap64 (gn + hs))]) := Lib.hid (KS2_13.out.below hbw_14 KS2_13.out.lt)
      have KZ_14 : Hid (Blk' w_14 (w_12.heap.size) 24 #[.int .i64 0, .int .i64 0, .int .i64 0, .slice none 0 0]) := Lib.hid (KZ_13.out.below hbw_14 KZ_13.out.lt)
      have QB_14 : Hid (Below w.heap.size w w_14) := Lib.hid (bthen QB_13.out hbw_14 QB_13.out.size)
      have sz_14 : w_13.heap.size + 1 + 1 ≤ w_14.heap.size := by rw [sqw_14]; exact Nat.le_refl _
      have KY1_14 : Hid (Blk' w_14 (w_13.heap.size) 31 #[.bool false, .int .i64 gn, .bool false, .int .i64 gs]) := Lib.hid (by rw [hww_14]; exact (Blk'.new w_13 _ _).alloc _)
      have KR1_14 : Hid (Blk' w_14 (w_13.heap.size + 1) 36 #[.int .i64 gn, .slice none 0 0, .int .i64 gn, .slice (some ⟨w_13.heap.size, 0, none⟩) 2 2]) := Lib.hid (by rw [hww_14]; exact Blk'.new' (g := w_13.heap.size + 1) _ _ _ (by simp))
      have HWw_14 := Lib.hid hww_14
      have SQw_14 := Lib.hid sqw_14
      clear hww_14 hbw_14 sqw_14
      clear KEA_13 KEB_13 KA_13 KB_13 KX0_13 KEU_13 KU_13 KEV_13 KV_13 KEK_13 KK_13 KS1_13 KS2_13 KZ_13 QB_13
      go_wp2_with fail
      rw [← HWw_14.out]
      clear cA_13_0 cA_13_1 cA_13_2 cA_13_3 zA_13 cS1_13_0 cS1_13_1 zS1_13
      have hIn : I64 gn ∧ I64 gs := by unfold I64; omega
      have HM : Hid (Els w_14 (fun b => S b ∨ b = w_13.heap.size ∨ b = w_13.heap.size + 1) ([⟨gn, []⟩, ⟨gn, [⟨false, gn⟩, ⟨false, gs⟩]⟩] : List Rule) (some ⟨w_13.heap.size + 1, 0, none⟩)) := Lib.hid (els_of_blk [[.int .i64 gn, .slice none 0 0], [.int .i64 gn, .slice (some ⟨w_13.heap.size, 0, none⟩) 2 2]] KR1_14.out rfl rfl (rd_two ⟨_, rfl, hIn.1, Vl.nil⟩ ⟨_, rfl, hIn.1, Vl.of_slice rfl (by simp) (by omega) (els_of_blk [[.bool false, .int .i64 gn], [.bool false, .int .i64 gs]] KY1_14.out rfl rfl (rd_two ⟨rfl, hIn.1⟩ ⟨rfl, hIn.2⟩) (by simp))⟩) (by simp))
      have hput : Calls Tryd.prog 15 #[.agg #[.int .i64 gt, .int .i64 gn, .int .i64 gs, .slice A rs.length c], .agg #[.int .i64 0, .int .i64 0, .int .i64 0, .slice none 0 0], .int .i64 (-1), .slice (some ⟨w_13.heap.size + 1, 0, none⟩) 2 2] w_14 (RetQ (fun b => S b ∨ b = w_13.heap.size ∨ b = w_13.heap.size + 1) ⟨⟨kt, kn, ks, kr⟩, ke⟩ w_14) := by
        have h := put_ref ⟨gt, gn, gs, rs⟩ zeroG (-1) [⟨gn, []⟩, ⟨gn, [⟨false, gn⟩, ⟨false, gs⟩]⟩] A none (some ⟨w_13.heap.size + 1, 0, none⟩) c 0 2 (fun b => S b ∨ b = w_13.heap.size ∨ b = w_13.heap.size + 1) w_14 HVg.out (by simp [zeroG]) (by simp [zeroG]) (by simp) hlc hc (KEA_14.out.keep (fun _ _ _ => rfl) (fun b hb => .inl hb)) (by simp [zeroG]) (by omega) (fun h => absurd rfl h) (by simp) (by omega) HM.out (fun b hb => by have hq := SQw_14.out; rcases hb with hb | hb | hb; (have := HS.out b hb; omega); omega; omega)
        have e := putAll_star HVg.out
        dsimp only at e
        rw [e, ← HKs.out] at h
        exact h
      clear HM hIn
      refine (hput).mono ?_
      rintro e w_15 ⟨A5, c5, rfl, hl5, hc5, hE5, hbz⟩
      dsimp only at hl5 hE5
      have HE5 := Lib.hid hE5
      clear hE5
      have KEA_15 : Hid (Els w_15 S rs A) := Lib.hid (KEA_14.out.below hbz)
      have KEB_15 : Hid (Els w_15 S rs2 B) := Lib.hid (KEB_14.out.below hbz)
      have KA_15 : Hid (Blk' w_15 (w.heap.size) 24 #[.int .i64 gt, .int .i64 gn, .int .i64 gs, .slice A rs.length c]) := Lib.hid (KA_14.out.below hbz KA_14.out.lt)
      have KB_15 : Hid (Blk' w_15 (w.heap.size + 1) 24 #[.int .i64 ht, .int .i64 hn, .int .i64 hs, .slice B rs2.length d]) := Lib.hid (KB_14.out.below hbz KB_14.out.lt)
      have KX0_15 : Hid (Blk' w_15 (w_3.heap.size) 24 #[.int .i64 1, .int .i64 2, .int .i64 1, .slice A3 4 c3]) := Lib.hid (KX0_14.out.below hbz KX0_14.out.lt)
      have KEU_15 : Hid (Els w_15 (fun b => b < w_5.heap.size) ur AU) := Lib.hid (KEU_14.out.below hbz)
      have KU_15 : Hid (Blk' w_15 (w_5.heap.size) 24 #[.int .i64 ut, .int .i64 un, .int .i64 us, .slice AU ur.length cU]) := Lib.hid (KU_14.out.below hbz KU_14.out.lt)
      have KEV_15 : Hid (Els w_15 (fun b => b < w_7.heap.size) vr AV) := Lib.hid (KEV_14.out.below hbz)
      have KV_15 : Hid (Blk' w_15 (w_7.heap.size) 24 #[.int .i64 vt, .int .i64 vn, .int .i64 vs, .slice AV vr.length cV]) := Lib.hid (KV_14.out.below hbz KV_14.out.lt)
      have KEK_15 : Hid (Els w_15 (fun b => b < w_9.heap.size) kr AK) := Lib.hid (KEK_14.out.below hbz)
      have KK_15 : Hid (Blk' w_15 (w_9.heap.size) 24 #[.int .i64 kt, .int .i64 kn, .int .i64 ks, .slice AK kr.length cK]) := Lib.hid (KK_14.out.below hbz KK_14.out.lt)
      have KS1_15 : Hid (Blk' w_15 (b1) 31 #[.bool false, .int .i64 gs]) := Lib.hid (KS1_14.out.below hbz KS1_14.out.lt)
      have KS2_15 : Hid (Blk' w_15 (b2) 31 #[.bool false, .int .i64 (wrap64 (gn + hs))]) := Lib.hid (KS2_14.out.below hbz KS2_14.out.lt)
      have KZ_15 : Hid (Blk' w_15 (w_12.heap.size) 24 #[.int .i64 0, .int .i64 0, .int .i64 0, .slice none 0 0]) := Lib.hid (KZ_14.out.below hbz KZ_14.out.lt)
      have KY1_15 : Hid (Blk' w_15 (w_13.heap.size) 31 #[.bool false, .int .i64 gn, .bool false, .int .i64 gs]) := Lib.hid (KY1_14.out.below hbz KY1_14.out.lt)
      have KR1_15 : Hid (Blk' w_15 (w_13.heap.size + 1) 36 #[.int .i64 gn, .slice none 0 0, .int .i64 gn, .slice (some ⟨w_13.heap.size, 0, none⟩) 2 2]) := Lib.hid (KR1_14.out.below hbz KR1_14.out.lt)
      have QB_15 : Hid (Below w.heap.size w w_15) := Lib.hid (bthen QB_14.out hbz QB_14.out.size)
      have sz_15 : w_14.heap.size ≤ w_15.heap.size := (hbz).size
      clear hbz
      clear KEA_14 KEB_14 KA_14 KB_14 KX0_14 KEU_14 KU_14 KEV_14 KV_14 KEK_14 KK_14 KS1_14 KS2_14 KZ_14 KY1_14 KR1_14 QB_14
      have KE5_15 : Hid (Els w_15 (fun b => ((S b ∨ b = w_13.heap.size ∨ b = w_13.heap.size + 1) ∨ w_14.heap.size ≤ b) ∧ b < w_15.heap.size) kr A5) := Lib.hid (HE5.out)
      have fZ_15_0 := KZ_15.out.frozen 0
      have fZ_15_1 := KZ_15.out.frozen 1
      have fZ_15_2 := KZ_15.out.frozen 2
      have fZ_15_3 := KZ_15.out.frozen 3
      have cZ_15_0 : w_15.cell? ⟨w_12.heap.size, 0, none⟩ = some (.int .i64 0) := KZ_15.out.cell 0
      have cZ_15_1 : w_15.cell? ⟨w_12.heap.size, 1, none⟩ = some (.int .i64 0) := KZ_15.out.cell 1
      have cZ_15_2 : w_15.cell? ⟨w_12.heap.size, 2, none⟩ = some (.int .i64 0) := KZ_15.out.cell 2
      have cZ_15_3 : w_15.cell? ⟨w_12.heap.size, 3, none⟩ = some (.slice none 0 0) := KZ_15.out.cell 3
      have zZ_15 : w_12.heap.size < w_15.heap.size := KZ_15.out.lt
      have zzb : w_12.heap.size < w_13.heap.size := by have := SQw_13.out; omega
      obtain ⟨w_16, hww_16⟩ : ∃ w_16 : World, w_16 = (((w_15.setCell ⟨w_12.heap.size, 0, none⟩ (.int .i64 kt)).setCell ⟨w_12.heap.size, 1, none⟩ (.int .i64 kn)).setCell ⟨w_12.heap.size, 2, none⟩ (.int .i64 ks)).setCell ⟨w_12.heap.size, 3, none⟩ (.slice A5 kr.length c5) := ⟨_, rfl⟩
      obtain ⟨hnw_16, kkw_16⟩ := set4 KZ_15.out (.int .i64 kt) (.int .i64 kn) (.int .i64 ks) (.slice A5 kr.length c5)
      rw [← hww_16] at hnw_16 kkw_16
      have KEA_16 : Hid (Els w_16 S rs A) := Lib.hid (KEA_15.out.kept kkw_16 (fun b hb (e : b = w_12.heap.size) => by have h9 := HS.out b hb; (try dsimp only at h9); omega))
      have KEB_16 : Hid (Els w_16 S rs2 B) := Lib.hid (KEB_15.out.kept kkw_16 (fun b hb (e : b = w_12.heap.size) => by have h9 := HS.out b hb; (try dsimp only at h9); omega))
      have KA_16 : Hid (Blk' w_16 (w.heap.size) 24 #[.int .i64 gt, .int .i64 gn, .int .i64 gs, .slice A rs.length c]) := Lib.hid (KA_15.out.kept kkw_16 (fun e : w.heap.size = w_12.heap.size => by omega))
      have KB_16 : Hid (Blk' w_16 (w.heap.size + 1) 24 #[.int .i64 ht, .int .i64 hn, .int .i64 hs, .slice B rs2.length d]) := Lib.hid (KB_15.out.kept kkw_16 (fun e : w.heap.size + 1 = w_12.heap.size => by omega))
      have KX0_16 : Hid (Blk' w_16 (w_3.heap.size) 24 #[.int .i64 1, .int .i64 2, .int .i64 1, .slice A3 4 c3]) := Lib.hid (KX0_15.out.kept kkw_16 (fun e : w_3.heap.size = w_12.heap.size => by omega))
      have KEU_16 : Hid (Els w_16 (fun b => b < w_5.heap.size) ur AU) := Lib.hid (KEU_15.out.kept kkw_16 (fun b hb (e : b = w_12.heap.size) => by have h9 := hb; (try dsimp only at h9); omega))
      have KU_16 : Hid (Blk' w_16 (w_5.heap.size) 24 #[.int .i64 ut, .int .i64 un, .int .i64 us, .slice AU ur.length cU]) := Lib.hid (KU_15.out.kept kkw_16 (fun e : w_5.heap.size = w_12.heap.size => by omega))
      have KEV_16 : Hid (Els w_16 (fun b => b < w_7.heap.size) vr AV) := Lib.hid (KEV_15.out.kept kkw_16 (fun b hb (e : b = w_12.heap.size) => by have h9 := hb; (try dsimp only at h9); omega))
      have KV_16 : Hid (Blk' w_16 (w_7.heap.size) 24 #[.int .i64 vt, .int .i64 vn, .int .i64 vs, .slice AV vr.length cV]) := Lib.hid (KV_15.out.kept kkw_16 (fun e : w_7.heap.size = w_12.heap.size => by omega))
      have KEK_16 : Hid (Els w_16 (fun b => b < w_9.heap.size) kr AK) := Lib.hid (KEK_15.out.kept kkw_16 (fun b hb (e : b = w_12.heap.size) => by have h9 := hb; (try dsimp only at h9); omega))
      have KK_16 : Hid (Blk' w_16 (w_9.heap.size) 24 #[.int .i64 kt, .int .i64 kn, .int .i64 ks, .slice AK kr.length cK]) := Lib.hid (KK_15.out.kept kkw_16 (fun e : w_9.heap.size = w_12.heap.size => by omega))
      have KS1_16 : Hid (Blk' w_16 (b1) 31 #[.bool false, .int .i64 gs]) := Lib.hid (KS1_15.out.kept kkw_16 (fun e : b1 = w_12.heap.size => by omega))
      have KS2_16 : Hid (Blk' w_16 (b2) 31 #[.bool false, .int .i64 (wrap64 (gn + hs))]) := Lib.hid (KS2_15.out.kept kkw_16 (fun e : b2 = w_12.heap.size => by omega))
      have KY1_16 : Hid (Blk' w_16 (w_13.heap.size) 31 #[.bool false, .int .i64 gn, .bool false, .int .i64 gs]) := Lib.hid (KY1_15.out.kept kkw_16 (fun e : w_13.heap.size = w_12.heap.size => by omega))
      have KR1_16 : Hid (Blk' w_16 (w_13.heap.size + 1) 36 #[.int .i64 gn, .slice none 0 0, .int .i64 gn, .slice (some ⟨w_13.heap.size, 0, none⟩) 2 2]) := Lib.hid (KR1_15.out.kept kkw_16 (fun e : w_13.heap.size + 1 = w_12.heap.size => by omega))
      have KE5_16 : Hid (Els w_16 (fun b => ((S b ∨ b = w_13.heap.size ∨ b = w_13.heap.size + 1) ∨ w_14.heap.size ≤ b) ∧ b < w_15.heap.size) kr A5) := Lib.hid (KE5_15.out.kept kkw_16 (fun b hb (e : b = w_12.heap.size) => by have h9 := (show (b < w.heap.size ∨ b = w_13.heap.size ∨ b = w_13.heap.size + 1 ∨ w_14.heap.size ≤ b) from by rcases hb.1 with (h | h | h) | h; exact .inl (HS.out b h); exact .inr (.inl h); exact .inr (.inr (.inl h)); exact .inr (.inr (.inr h))); (try dsimp only at h9); omega))
      have QB_16 : Hid (Below w.heap.size w w_16) := Lib.hid (QB_15.out.trans ((kkw_16).to_below (B := w.heap.size) (fun b (e : b = w_12.heap.size) => by omega) QB_15.out.size))
      have sz_16 : w_15.heap.size ≤ w_16.heap.size := (kkw_16).size
      have KZ_16 : Hid (Blk' w_16 (w_12.heap.size) 24 #[.int .i64 kt, .int .i64 kn, .int .i64 ks, .slice A5 kr.length c5]) := Lib.hid (hnw_16)
      have HWw_16 := Lib.hid hww_16
      clear hww_16 hnw_16 kkw_16
      clear KZ_15 KEA_15 KEB_15 KA_15 KB_15 KX0_15 KEU_15 KU_15 KEV_15 KV_15 KEK_15 KK_15 KS1_15 KS2_15 KY1_15 KR1_15 KE5_15 QB_15
      go_upto_region 12 with (fail)
      rw [← HWw_16.out]
      clear fZ_15_0 fZ_15_1 fZ_15_2 fZ_15_3 cZ_15_0 cZ_15_1 cZ_15_2 cZ_15_3 zZ_15
      have cK_16_0 : w_16.cell? ⟨w_9.heap.size, 0, none⟩ = some (.int .i64 kt) := KK_16.out.cell 0
      have cK_16_1 : w_16.cell? ⟨w_9.heap.size, 1, none⟩ = some (.int .i64 kn) := KK_16.out.cell 1
      have cK_16_2 : w_16.cell? ⟨w_9.heap.size, 2, none⟩ = some (.int .i64 ks) := KK_16.out.cell 2
      have cK_16_3 : w_16.cell? ⟨w_9.heap.size, 3, none⟩ = some (.slice AK kr.length cK) := KK_16.out.cell 3
      have zK_16 : w_9.heap.size < w_16.heap.size := KK_16.out.lt
      have cZ_16_0 : w_16.cell? ⟨w_12.heap.size, 0, none⟩ = some (.int .i64 kt) := KZ_16.out.cell 0
      have cZ_16_1 : w_16.cell? ⟨w_12.heap.size, 1, none⟩ = some (.int .i64 kn) := KZ_16.out.cell 1
      have cZ_16_2 : w_16.cell? ⟨w_12.heap.size, 2, none⟩ = some (.int .i64 ks) := KZ_16.out.cell 2
      have cZ_16_3 : w_16.cell? ⟨w_12.heap.size, 3, none⟩ = some (.slice A5 kr.length c5) := KZ_16.out.cell 3
      have zZ_16 : w_12.heap.size < w_16.heap.size := KZ_16.out.lt
      go_wp2_with fail
      refine (same_true ⟨kt, kn, ks, kr⟩ ⟨kt, kn, ks, kr⟩ AK A5 cK c5 _ _ _ rfl ⟨hlK, hcK⟩ ⟨hl5, hc5⟩ KEK_16.out KE5_16.out).mono ?_
      rintro e w_17 ⟨rfl, hbz⟩
      clear cK_16_0 cK_16_1 cK_16_2 cK_16_3 zK_16 cZ_16_0 cZ_16_1 cZ_16_2 cZ_16_3 zZ_16
      have KEA_17 : Hid (Els w_17 S rs A) := Lib.hid (KEA_16.out.below hbz)
      have KEB_17 : Hid (Els w_17 S rs2 B) := Lib.hid (KEB_16.out.below hbz)
      have KA_17 : Hid (Blk' w_17 (w.heap.size) 24 #[.int .i64 gt, .int .i64 gn, .int .i64 gs, .slice A rs.length c]) := Lib.hid (KA_16.out.below hbz KA_16.out.lt)
      have KB_17 : Hid (Blk' w_17 (w.heap.size + 1) 24 #[.int .i64 ht, .int .i64 hn, .int .i64 hs, .slice B rs2.length d]) := Lib.hid (KB_16.out.below hbz KB_16.out.lt)
      have KX0_17 : Hid (Blk' w_17 (w_3.heap.size) 24 #[.int .i64 1, .int .i64 2, .int .i64 1, .slice A3 4 c3]) := Lib.hid (KX0_16.out.below hbz KX0_16.out.lt)
      have KEU_17 : Hid (Els w_17 (fun b => b < w_5.heap.size) ur AU) := Lib.hid (KEU_16.out.below hbz)
      have KU_17 : Hid (Blk' w_17 (w_5.heap.size) 24 #[.int .i64 ut, .int .i64 un, .int .i64 us, .slice AU ur.length cU]) := Lib.hid (KU_16.out.below hbz KU_16.out.lt)
      have KEV_17 : Hid (Els w_17 (fun b => b < w_7.heap.size) vr AV) := Lib.hid (KEV_16.out.below hbz)
      have KV_17 : Hid (Blk' w_17 (w_7.heap.size) 24 #[.int .i64 vt, .int .i64 vn, .int .i64 vs, .slice AV vr.length cV]) := Lib.hid (KV_16.out.below hbz KV_16.out.lt)
      have KEK_17 : Hid (Els w_17 (fun b => b < w_9.heap.size) kr AK) := Lib.hid (KEK_16.out.below hbz)
      have KK_17 : Hid (Blk' w_17 (w_9.heap.size) 24 #[.int .i64 kt, .int .i64 kn, .int .i64 ks, .slice AK kr.length cK]) := Lib.hid (KK_16.out.below hbz KK_16.out.lt)
      have KS1_17 : Hid (Blk' w_17 (b1) 31 #[.bool false, .int .i64 gs]) := Lib.hid (KS1_16.out.below hbz KS1_16.out.lt)
      have KS2_17 : Hid (Blk' w_17 (b2) 31 #[.bool false, .int .i64 (wrap64 (gn + hs))]) := Lib.hid (KS2_16.out.below hbz KS2_16.out.lt)
      have KY1_17 : Hid (Blk' w_17 (w_13.heap.size) 31 #[.bool false, .int .i64 gn, .bool false, .int .i64 gs]) := Lib.hid (KY1_16.out.below hbz KY1_16.out.lt)
      have KR1_17 : Hid (Blk' w_17 (w_13.heap.size + 1) 36 #[.int .i64 gn, .slice none 0 0, .int .i64 gn, .slice (some ⟨w_13.heap.size, 0, none⟩) 2 2]) := Lib.hid (KR1_16.out.below hbz KR1_16.out.lt)
      have KE5_17 : Hid (Els w_17 (fun b => ((S b ∨ b = w_13.heap.size ∨ b = w_13.heap.size + 1) ∨ w_14.heap.size ≤ b) ∧ b < w_15.heap.size) kr A5) := Lib.hid (KE5_16.out.below hbz)
      have KZ_17 : Hid (Blk' w_17 (w_12.heap.size) 24 #[.int .i64 kt, .int .i64 kn, .int .i64 ks, .slice A5 kr.length c5]) := Lib.hid (KZ_16.out.below hbz KZ_16.out.lt)
      have QB_17 : Hid (Below w.heap.size w w_17) := Lib.hid (bthen QB_16.out hbz QB_16.out.size)
      have sz_17 : w_16.heap.size ≤ w_17.heap.size := (hbz).size
      clear hbz
      clear KEA_16 KEB_16 KA_16 KB_16 KX0_16 KEU_16 KU_16 KEV_16 KV_16 KEK_16 KK_16 KS1_16 KS2_16 KY1_16 KR1_16 KE5_16 KZ_16 QB_16
      have cA_17_0 : w_17.cell? ⟨w.heap.size, 0, none⟩ = some (.int .i64 gt) := KA_17.out.cell 0
      have cA_17_1 : w_17.cell? ⟨w.heap.size, 1, none⟩ = some (.int .i64 gn) := KA_17.out.cell 1
      have cA_17_2 : w_17.cell? ⟨w.heap.size, 2, none⟩ = some (.int .i64 gs) := KA_17.out.cell 2
      have cA_17_3 : w_17.cell? ⟨w.heap.size, 3, none⟩ = some (.slice A rs.length c) := KA_17.out.cell 3
      have zA_17 : w.heap.size < w_17.heap.size := KA_17.out.lt
      have cB_17_0 : w_17.cell? ⟨w.heap.size + 1, 0, none⟩ = some (.int .i64 ht) := KB_17.out.cell 0
      have cB_17_1 : w_17.cell? ⟨w.heap.size + 1, 1, none⟩ = some (.int .i64 hn) := KB_17.out.cell 1
      have cB_17_2 : w_17.cell? ⟨w.heap.size + 1, 2, none⟩ = some (.int .i64 hs) := KB_17.out.cell 2
      have cB_17_3 : w_17.cell? ⟨w.heap.size + 1, 3, none⟩ = some (.slice B rs2.length d) := KB_17.out.cell 3
      have zB_17 : w.heap.size + 1 < w_17.heap.size := KB_17.out.lt
      go_upto_region 14 with (fail)
      go_wp2_with fail
      refine (pairErr_any ⟨gt, gn, gs, rs⟩ ⟨ht, hn, hs, rs2⟩ A B c d S _ HI.out.1 HI.out.2 hlc hc KEA_17.out hld hd KEB_17.out (fun b hb => by have := HS.out b hb; omega)).mono ?_
      rintro e w_18 ⟨rfl, hbz⟩
      clear cA_17_0 cA_17_1 cA_17_2 cA_17_3 zA_17 cB_17_0 cB_17_1 cB_17_2 cB_17_3 zB_17
      have KEA_18 : Hid (Els w_18 S rs A) := Lib.hid (KEA_17.out.below hbz)
      have KEB_18 : Hid (Els w_18 S rs2 B) := Lib.hid (KEB_17.out.below hbz)
      have KA_18 : Hid (Blk' w_18 (w.heap.size) 24 #[.int .i64 gt, .int .i64 gn, .int .i64 gs, .slice A rs.length c]) := Lib.hid (KA_17.out.below hbz KA_17.out.lt)
      have KB_18 : Hid (Blk' w_18 (w.heap.size + 1) 24 #[.int .i64 ht, .int .i64 hn, .int .i64 hs, .slice B rs2.length d]) := Lib.hid (KB_17.out.below hbz KB_17.out.lt)
      have KX0_18 : Hid (Blk' w_18 (w_3.heap.size) 24 #[.int .i64 1, .int .i64 2, .int .i64 1, .slice A3 4 c3]) := Lib.hid (KX0_17.out.below hbz KX0_17.out.lt)
      have KEU_18 : Hid (Els w_18 (fun b => b < w_5.heap.size) ur AU) := Lib.hid (KEU_17.out.below hbz)
      have KU_18 : Hid (Blk' w_18 (w_5.heap.size) 24 #[.int .i64 ut, .int .i64 un, .int .i64 us, .slice AU ur.length cU]) := Lib.hid (KU_17.out.below hbz KU_17.out.lt)
      have KEV_18 : Hid (Els w_18 (fun b => b < w_7.heap.size) vr AV) := Lib.hid (KEV_17.out.below hbz)
      have KV_18 : Hid (Blk' w_18 (w_7.heap.size) 24 #[.int .i64 vt, .int .i64 vn, .int .i64 vs, .slice AV vr.length cV]) := Lib.hid (KV_17.out.below hbz KV_17.out.lt)
      have KEK_18 : Hid (Els w_18 (fun b => b < w_9.heap.size) kr AK) := Lib.hid (KEK_17.out.below hbz)
      have KK_18 : Hid (Blk' w_18 (w_9.heap.size) 24 #[.int .i64 kt, .int .i64 kn, .int .i64 ks, .slice AK kr.length cK]) := Lib.hid (KK_17.out.below hbz KK_17.out.lt)
      have KS1_18 : Hid (Blk' w_18 (b1) 31 #[.bool false, .int .i64 gs]) := Lib.hid (KS1_17.out.below hbz KS1_17.out.lt)
      have KS2_18 : Hid (Blk' w_18 (b2) 31 #[.bool false, .int .i64 (wrap64 (gn + hs))]) := Lib.hid (KS2_17.out.below hbz KS2_17.out.lt)
      have KY1_18 : Hid (Blk' w_18 (w_13.heap.size) 31 #[.bool false, .int .i64 gn, .bool false, .int .i64 gs]) := Lib.hid (KY1_17.out.below hbz KY1_17.out.lt)
      have KR1_18 : Hid (Blk' w_18 (w_13.heap.size + 1) 36 #[.int .i64 gn, .slice none 0 0, .int .i64 gn, .slice (some ⟨w_13.heap.size, 0, none⟩) 2 2]) := Lib.hid (KR1_17.out.below hbz KR1_17.out.lt)
      have KE5_18 : Hid (Els w_18 (fun b => ((S b ∨ b = w_13.heap.size ∨ b = w_13.heap.size + 1) ∨ w_14.heap.size ≤ b) ∧ b < w_15.heap.size) kr A5) := Lib.hid (KE5_17.out.below hbz)
      have KZ_18 : Hid (Blk' w_18 (w_12.heap.size) 24 #[.int .i64 kt, .int .i64 kn, .int .i64 ks, .slice A5 kr.length c5]) := Lib.hid (KZ_17.out.below hbz KZ_17.out.lt)
      have QB_18 : Hid (Below w.heap.size w w_18) := Lib.hid (bthen QB_17.out hbz QB_17.out.size)
      have sz_18 : w_17.heap.size ≤ w_18.heap.size := (hbz).size
      clear hbz
      clear KEA_17 KEB_17 KA_17 KB_17 KX0_17 KEU_17 KU_17 KEV_17 KV_17 KEK_17 KK_17 KS1_17 KS2_17 KY1_17 KR1_17 KE5_17 KZ_17 QB_17
      rw [← HP.out]
      by_cases hP0 : P = 0
      · subst hP0
        have hok := pairR_ok (LL := llU gs (gn + hs)) HP.out.symm
        have hok2 := (pairR_ok (LL := llC gs (gn + hs)) HP.out.symm).1
        have HUe : Hid ((⟨⟨ut, un, us, ur⟩, ue⟩ : Gram × Int) = mkR (twoG ⟨gt, gn, gs, rs⟩ ⟨ht, hn, hs, rs2⟩ (llU gs (gn + hs)))) := Lib.hid (by rw [HU.out, hok.1])
        have HVe : Hid ((⟨⟨vt, vn, vs, vr⟩, ve⟩ : Gram × Int) = mkR (twoG ⟨gt, gn, gs, rs⟩ ⟨ht, hn, hs, rs2⟩ (llC gs (gn + hs)))) := Lib.hid (by rw [HV.out, hok2])
        have hvh := validG_of hok.2.2.1
        have hvb := valid_b hvh
        have HVh := Lib.hid hvb
        have t0 := hvb.1
        dsimp only at t0
        clear hok hok2 hvh hvb
        have hwr : wrap64 (gn + hs) = gn + hs := by have h := IntWalk.i64_in (gn + hs) (by omega); rw [IntKind.wrap_i64] at h; unfold wrap64; exact h
        have hwr2 : IntKind.i64.wrap (gn + hn) = gn + hn := IntWalk.i64_in _ (by omega)
        have KS2_18 : Hid (Blk' w_18 (b2) 31 #[.bool false, .int .i64 (gn + hs)]) := Lib.hid (by have h := KS2_18.out; rw [hwr] at h; exact h)
        clear hwr
        have cA_18_0 : w_18.cell? ⟨w.heap.size, 0, none⟩ = some (.int .i64 gt) := KA_18.out.cell 0
        have cA_18_1 : w_18.cell? ⟨w.heap.size, 1, none⟩ = some (.int .i64 gn) := KA_18.out.cell 1
        have cA_18_2 : w_18.cell? ⟨w.heap.size, 2, none⟩ = some (.int .i64 gs) := KA_18.out.cell 2
        have cA_18_3 : w_18.cell? ⟨w.heap.size, 3, none⟩ = some (.slice A rs.length c) := KA_18.out.cell 3
        have zA_18 : w.heap.size < w_18.heap.size := KA_18.out.lt
        have cB_18_0 : w_18.cell? ⟨w.heap.size + 1, 0, none⟩ = some (.int .i64 ht) := KB_18.out.cell 0
        have cB_18_1 : w_18.cell? ⟨w.heap.size + 1, 1, none⟩ = some (.int .i64 hn) := KB_18.out.cell 1
        have cB_18_2 : w_18.cell? ⟨w.heap.size + 1, 2, none⟩ = some (.int .i64 hs) := KB_18.out.cell 2
        have cB_18_3 : w_18.cell? ⟨w.heap.size + 1, 3, none⟩ = some (.slice B rs2.length d) := KB_18.out.cell 3
        have zB_18 : w.heap.size + 1 < w_18.heap.size := KB_18.out.lt
        go_upto_region 18 with (fail)
        clear cA_18_0 cA_18_1 cA_18_2 cA_18_3 zA_18 cB_18_0 cB_18_1 cB_18_2 cB_18_3 zB_18
        have cA_18_0 : w_18.cell? ⟨w.heap.size, 0, none⟩ = some (.int .i64 gt) := KA_18.out.cell 0
        have cA_18_1 : w_18.cell? ⟨w.heap.size, 1, none⟩ = some (.int .i64 gn) := KA_18.out.cell 1
        have cA_18_2 : w_18.cell? ⟨w.heap.size, 2, none⟩ = some (.int .i64 gs) := KA_18.out.cell 2
        have cA_18_3 : w_18.cell? ⟨w.heap.size, 3, none⟩ = some (.slice A rs.length c) := KA_18.out.cell 3
        have zA_18 : w.heap.size < w_18.heap.size := KA_18.out.lt
        have cB_18_0 : w_18.cell? ⟨w.heap.size + 1, 0, none⟩ = some (.int .i64 ht) := KB_18.out.cell 0
        have cB_18_1 : w_18.cell? ⟨w.heap.size + 1, 1, none⟩ = some (.int .i64 hn) := KB_18.out.cell 1
        have cB_18_2 : w_18.cell? ⟨w.heap.size + 1, 2, none⟩ = some (.int .i64 hs) := KB_18.out.cell 2
        have cB_18_3 : w_18.cell? ⟨w.heap.size + 1, 3, none⟩ = some (.slice B rs2.length d) := KB_18.out.cell 3
        have zB_18 : w.heap.size + 1 < w_18.heap.size := KB_18.out.lt
        have cS1_18_0 : w_18.cell? ⟨b1, 0, none⟩ = some (.bool false) := KS1_18.out.cell 0
        have cS1_18_1 : w_18.cell? ⟨b1, 1, none⟩ = some (.int .i64 gs) := KS1_18.out.cell 1
        have zS1_18 : b1 < w_18.heap.size := KS1_18.out.lt
        have cS2_18_0 : w_18.cell? ⟨b2, 0, none⟩ = some (.bool false) := KS2_18.out.cell 0
        have cS2_18_1 : w_18.cell? ⟨b2, 1, none⟩ = some (.int .i64 (gn + hs)) := KS2_18.out.cell 1
        have zS2_18 : b2 < w_18.heap.size := KS2_18.out.lt
        obtain ⟨w_19, hww_19⟩ : ∃ w_19 : World, w_19 = ((w_18.alloc (.cells #[.bool false, .int .i64 gs] 31)).alloc (.cells #[.bool false, .int .i64 (gn + hs)] 31)).alloc (.cells #[.int .i64 (gn + hn), .slice (some ⟨w_18.heap.size, 0, none⟩) 1 1, .int .i64 (gn + hn), .slice (some ⟨w_18.heap.size + 1, 0, none⟩) 1 1] 36) := ⟨_, rfl⟩
        have hbw_19 : Below w_18.heap.size w_18 w_19 := by rw [hww_19]; exact (((Below.refl _ _).alloc (by first | exact Nat.le_refl _ | (simp; done) | (simp; omega)) _).alloc (by first | exact Nat.le_refl _ | (simp; done) | (simp; omega)) _).alloc (by first | exact Nat.le_refl _ | (simp; done) | (simp; omega)) _
        have sqw_19 : w_19.heap.size = w_18.heap.size + 1 + 1 + 1 := by rw [hww_19]; simp
        have KEA_19 : Hid (Els w_19 S rs A) := Lib.hid (KEA_18.out.below hbw_19)
        have KEB_19 : Hid (Els w_19 S rs2 B) := Lib.hid (KEB_18.out.below hbw_19)
        have KA_19 : Hid (Blk' w_19 (w.heap.size) 24 #[.int .i64 gt, .int .i64 gn, .int .i64 gs, .slice A rs.length c]) := Lib.hid (KA_18.out.below hbw_19 KA_18.out.lt)
        have KB_19 : Hid (Blk' w_19 (w.heap.size + 1) 24 #[.int .i64 ht, .int .i64 hn, .int .i64 hs, .slice B rs2.length d]) := Lib.hid (KB_18.out.below hbw_19 KB_18.out.lt)
        have KX0_19 : Hid (Blk' w_19 (w_3.heap.size) 24 #[.int .i64 1, .int .i64 2, .int .i64 1, .slice A3 4 c3]) := Lib.hid (KX0_18.out.below hbw_19 KX0_18.out.lt)
        have KEU_19 : Hid (Els w_19 (fun b => b < w_5.heap.size) ur AU) := Lib.hid (KEU_18.out.below hbw_19)
        have KU_19 : Hid (Blk' w_19 (w_5.heap.size) 24 #[.int .i64 ut, .int .i64 un, .int .i64 us, .slice AU ur.length cU]) := Lib.hid (KU_18.out.below hbw_19 KU_18.out.lt)
        have KEV_19 : Hid (Els w_19 (fun b => b < w_7.heap.size) vr AV) := Lib.hid (KEV_18.out.below hbw_19)
        have KV_19 : Hid (Blk' w_19 (w_7.heap.size) 24 #[.int .i64 vt, .int .i64 vn, .int .i64 vs, .slice AV vr.length cV]) := Lib.hid (KV_18.out.below hbw_19 KV_18.out.lt)
        have KEK_19 : Hid (Els w_19 (fun b => b < w_9.heap.size) kr AK) := Lib.hid (KEK_18.out.below hbw_19)
        have KK_19 : Hid (Blk' w_19 (w_9.heap.size) 24 #[.int .i64 kt, .int .i64 kn, .int .i64 ks, .slice AK kr.length cK]) := Lib.hid (KK_18.out.below hbw_19 KK_18.out.lt)
        have KS1_19 : Hid (Blk' w_19 (b1) 31 #[.bool false, .int .i64 gs]) := Lib.hid (KS1_18.out.below hbw_19 KS1_18.out.lt)
        have KY1_19 : Hid (Blk' w_19 (w_13.heap.size) 31 #[.bool false, .int .i64 gn, .bool false, .int .i64 gs]) := Lib.hid (KY1_18.out.below hbw_19 KY1_18.out.lt)
        have KR1_19 : Hid (Blk' w_19 (w_13.heap.size + 1) 36 #[.int .i64 gn, .slice none 0 0, .int .i64 gn, .slice (some ⟨w_13.heap.size, 0, none⟩) 2 2]) := Lib.hid (KR1_18.out.below hbw_19 KR1_18.out.lt)
        have KE5_19 : Hid (Els w_19 (fun b => ((S b ∨ b = w_13.heap.size ∨ b = w_13.heap.size + 1) ∨ w_14.heap.size ≤ b) ∧ b < w_15.heap.size) kr A5) := Lib.hid (KE5_18.out.below hbw_19)
        have KZ_19 : Hid (Blk' w_19 (w_12.heap.size) 24 #[.int .i64 kt, .int .i64 kn, .int .i64 ks, .slice A5 kr.length c5]) := Lib.hid (KZ_18.out.below hbw_19 KZ_18.out.lt)
        have KS2_19 : Hid (Blk' w_19 (b2) 31 #[.bool false, .int .i64 (gn + hs)]) := Lib.hid (KS2_18.out.below hbw_19 KS2_18.out.lt)
        have QB_19 : Hid (Below w.heap.size w w_19) := Lib.hid (bthen QB_18.out hbw_19 QB_18.out.size)
        have sz_19 : w_18.heap.size + 1 + 1 + 1 ≤ w_19.heap.size := by rw [sqw_19]; exact Nat.le_refl _
        have KY2_19 : Hid (Blk' w_19 (w_18.heap.size) 31 #[.bool false, .int .i64 gs]) := Lib.hid (by rw [hww_19]; exact ((Blk'.new w_18 _ _).alloc _).alloc _)
        have KY3_19 : Hid (Blk' w_19 (w_18.heap.size + 1) 31 #[.bool false, .int .i64 (gn + hs)]) := Lib.hid (by rw [hww_19]; exact (Blk'.new' (g := w_18.heap.size + 1) _ _ _ (by simp)).alloc _)
        have KR2_19 : Hid (Blk' w_19 (w_18.heap.size + 1 + 1) 36 #[.int .i64 (gn + hn), .slice (some ⟨w_18.heap.size, 0, none⟩) 1 1, .int .i64 (gn + hn), .slice (some ⟨w_18.heap.size + 1, 0, none⟩) 1 1]) := Lib.hid (by rw [hww_19]; exact Blk'.new' (g := w_18.heap.size + 1 + 1) _ _ _ (by simp))
        have HWw_19 := Lib.hid hww_19
        have SQw_19 := Lib.hid sqw_19
        clear hww_19 hbw_19 sqw_19
        clear KEA_18 KEB_18 KA_18 KB_18 KX0_18 KEU_18 KU_18 KEV_18 KV_18 KEK_18 KK_18 KS1_18 KY1_18 KR1_18 KE5_18 KZ_18 KS2_18 QB_18
        go_wp2_with fail
        rw [← HWw_19.out]
        clear cA_18_0 cA_18_1 cA_18_2 cA_18_3 zA_18 cB_18_0 cB_18_1 cB_18_2 cB_18_3 zB_18 cS1_18_0 cS1_18_1 zS1_18 cS2_18_0 cS2_18_1 zS2_18
        have hIn : I64 (gn + hn) ∧ I64 gs ∧ I64 (gn + hs) := by unfold I64; omega
        have HM : Hid (Els w_19 (fun b => b < w_19.heap.size) ([⟨gn + hn, [⟨false, gs⟩]⟩, ⟨gn + hn, [⟨false, gn + hs⟩]⟩] : List Rule) (some ⟨w_18.heap.size + 1 + 1, 0, none⟩)) := Lib.hid (by have hq := SQw_19.out; exact els_of_blk [[.int .i64 (gn + hn), .slice (some ⟨w_18.heap.size, 0, none⟩) 1 1], [.int .i64 (gn + hn), .slice (some ⟨w_18.heap.size + 1, 0, none⟩) 1 1]] KR2_19.out rfl rfl (rd_two ⟨_, rfl, hIn.1, Vl.of_slice rfl (by simp) (by omega) (els_of_blk [[.bool false, .int .i64 gs]] KY2_19.out rfl rfl (rd_one ⟨rfl, hIn.2.1⟩) (by omega))⟩ ⟨_, rfl, hIn.1, Vl.of_slice rfl (by simp) (by omega) (els_of_blk [[.bool false, .int .i64 (gn + hs)]] KY3_19.out rfl rfl (rd_one ⟨rfl, hIn.2.2⟩) (by omega))⟩) (by omega))
        have hput : Calls Tryd.prog 15 #[.agg #[.int .i64 gt, .int .i64 gn, .int .i64 gs, .slice A rs.length c], .agg #[.int .i64 ht, .int .i64 hn, .int .i64 hs, .slice B rs2.length d], .int .i64 (-1), .slice (some ⟨w_18.heap.size + 1 + 1, 0, none⟩) 2 2] w_19 (RetQ (fun b => b < w_19.heap.size) ⟨⟨ut, un, us, ur⟩, ue⟩ w_19) := by
          have h := put_ref ⟨gt, gn, gs, rs⟩ ⟨ht, hn, hs, rs2⟩ (-1) ([⟨gn + hn, [⟨false, gs⟩]⟩, ⟨gn + hn, [⟨false, gn + hs⟩]⟩] : List Rule) A B (some ⟨w_18.heap.size + 1 + 1, 0, none⟩) c d 2 (fun b => b < w_19.heap.size) w_19 HVg.out HVh.out.1 HVh.out.2 (by simp) hlc hc (KEA_19.out.keep (fun _ _ _ => rfl) (fun b hb => by have := HS.out b hb; omega)) hld hd (KEB_19.out.keep (fun _ _ _ => rfl) (fun b hb => by have := HS.out b hb; omega)) (by simp) (by omega) HM.out (fun b hb => hb)
          have e := putAll_u (h := ⟨ht, hn, hs, rs2⟩) HVg.out
          dsimp only at e
          rw [e, ← HUe.out] at h
          exact h
        clear HM hIn
        refine (hput).mono ?_
        rintro e w_20 ⟨AX, cX, rfl, hlX, hcX, hEX, hbz⟩
        dsimp only at hlX hEX
        have HEX := Lib.hid hEX
        clear hEX
        have KEA_20 : Hid (Els w_20 S rs A) := Lib.hid (KEA_19.out.below hbz)
        have KEB_20 : Hid (Els w_20 S rs2 B) := Lib.hid (KEB_19.out.below hbz)
        have KA_20 : Hid (Blk' w_20 (w.heap.size) 24 #[.int .i64 gt, .int .i64 gn, .int .i64 gs, .slice A rs.length c]) := Lib.hid (KA_19.out.below hbz KA_19.out.lt)
        have KB_20 : Hid (Blk' w_20 (w.heap.size + 1) 24 #[.int .i64 ht, .int .i64 hn, .int .i64 hs, .slice B rs2.length d]) := Lib.hid (KB_19.out.below hbz KB_19.out.lt)
        have KX0_20 : Hid (Blk' w_20 (w_3.heap.size) 24 #[.int .i64 1, .int .i64 2, .int .i64 1, .slice A3 4 c3]) := Lib.hid (KX0_19.out.below hbz KX0_19.out.lt)
        have KEU_20 : Hid (Els w_20 (fun b => b < w_5.heap.size) ur AU) := Lib.hid (KEU_19.out.below hbz)
        have KU_20 : Hid (Blk' w_20 (w_5.heap.size) 24 #[.int .i64 ut, .int .i64 un, .int .i64 us, .slice AU ur.length cU]) := Lib.hid (KU_19.out.below hbz KU_19.out.lt)
        have KEV_20 : Hid (Els w_20 (fun b => b < w_7.heap.size) vr AV) := Lib.hid (KEV_19.out.below hbz)
        have KV_20 : Hid (Blk' w_20 (w_7.heap.size) 24 #[.int .i64 vt, .int .i64 vn, .int .i64 vs, .slice AV vr.length cV]) := Lib.hid (KV_19.out.below hbz KV_19.out.lt)
        have KEK_20 : Hid (Els w_20 (fun b => b < w_9.heap.size) kr AK) := Lib.hid (KEK_19.out.below hbz)
        have KK_20 : Hid (Blk' w_20 (w_9.heap.size) 24 #[.int .i64 kt, .int .i64 kn, .int .i64 ks, .slice AK kr.length cK]) := Lib.hid (KK_19.out.below hbz KK_19.out.lt)
        have KS1_20 : Hid (Blk' w_20 (b1) 31 #[.bool false, .int .i64 gs]) := Lib.hid (KS1_19.out.below hbz KS1_19.out.lt)
        have KY1_20 : Hid (Blk' w_20 (w_13.heap.size) 31 #[.bool false, .int .i64 gn, .bool false, .int .i64 gs]) := Lib.hid (KY1_19.out.below hbz KY1_19.out.lt)
        have KR1_20 : Hid (Blk' w_20 (w_13.heap.size + 1) 36 #[.int .i64 gn, .slice none 0 0, .int .i64 gn, .slice (some ⟨w_13.heap.size, 0, none⟩) 2 2]) := Lib.hid (KR1_19.out.below hbz KR1_19.out.lt)
        have KE5_20 : Hid (Els w_20 (fun b => ((S b ∨ b = w_13.heap.size ∨ b = w_13.heap.size + 1) ∨ w_14.heap.size ≤ b) ∧ b < w_15.heap.size) kr A5) := Lib.hid (KE5_19.out.below hbz)
        have KZ_20 : Hid (Blk' w_20 (w_12.heap.size) 24 #[.int .i64 kt, .int .i64 kn, .int .i64 ks, .slice A5 kr.length c5]) := Lib.hid (KZ_19.out.below hbz KZ_19.out.lt)
        have KS2_20 : Hid (Blk' w_20 (b2) 31 #[.bool false, .int .i64 (gn + hs)]) := Lib.hid (KS2_19.out.below hbz KS2_19.out.lt)
        have KY2_20 : Hid (Blk' w_20 (w_18.heap.size) 31 #[.bool false, .int .i64 gs]) := Lib.hid (KY2_19.out.below hbz KY2_19.out.lt)
        have KY3_20 : Hid (Blk' w_20 (w_18.heap.size + 1) 31 #[.bool false, .int .i64 (gn + hs)]) := Lib.hid (KY3_19.out.below hbz KY3_19.out.lt)
        have KR2_20 : Hid (Blk' w_20 (w_18.heap.size + 1 + 1) 36 #[.int .i64 (gn + hn), .slice (some ⟨w_18.heap.size, 0, none⟩) 1 1, .int .i64 (gn + hn), .slice (some ⟨w_18.heap.size + 1, 0, none⟩) 1 1]) := Lib.hid (KR2_19.out.below hbz KR2_19.out.lt)
        have QB_20 : Hid (Below w.heap.size w w_20) := Lib.hid (bthen QB_19.out hbz QB_19.out.size)
        have sz_20 : w_19.heap.size ≤ w_20.heap.size := (hbz).size
        clear hbz
        clear KEA_19 KEB_19 KA_19 KB_19 KX0_19 KEU_19 KU_19 KEV_19 KV_19 KEK_19 KK_19 KS1_19 KY1_19 KR1_19 KE5_19 KZ_19 KS2_19 KY2_19 KY3_19 KR2_19 QB_19
        have KEX_20 : Hid (Els w_20 (fun b => b < w_20.heap.size) ur AX) := Lib.hid (HEX.out.keep (fun _ _ _ => rfl) (fun b hb => hb.2))
        obtain ⟨w_21, hww_21⟩ : ∃ w_21 : World, w_21 = w_20.alloc (.cells #[.int .i64 ut, .int .i64 un, .int .i64 us, .slice AX ur.length cX] 24) := ⟨_, rfl⟩
        have hbw_21 : Below w_20.heap.size w_20 w_21 := by rw [hww_21]; exact (Below.refl _ _).alloc (by first | exact Nat.le_refl _ | (simp; done) | (simp; omega)) _
        have sqw_21 : w_21.heap.size = w_20.heap.size + 1 := by rw [hww_21]; simp
        have KEA_21 : Hid (Els w_21 S rs A) := Lib.hid (KEA_20.out.below hbw_21)
        have KEB_21 : Hid (Els w_21 S rs2 B) := Lib.hid (KEB_20.out.below hbw_21)
        have KA_21 : Hid (Blk' w_21 (w.heap.size) 24 #[.int .i64 gt, .int .i64 gn, .int .i64 gs, .slice A rs.length c]) := Lib.hid (KA_20.out.below hbw_21 KA_20.out.lt)
        have KB_21 : Hid (Blk' w_21 (w.heap.size + 1) 24 #[.int .i64 ht, .int .i64 hn, .int .i64 hs, .slice B rs2.length d]) := Lib.hid (KB_20.out.below hbw_21 KB_20.out.lt)
        have KX0_21 : Hid (Blk' w_21 (w_3.heap.size) 24 #[.int .i64 1, .int .i64 2, .int .i64 1, .slice A3 4 c3]) := Lib.hid (KX0_20.out.below hbw_21 KX0_20.out.lt)
        have KEU_21 : Hid (Els w_21 (fun b => b < w_5.heap.size) ur AU) := Lib.hid (KEU_20.out.below hbw_21)
        have KU_21 : Hid (Blk' w_21 (w_5.heap.size) 24 #[.int .i64 ut, .int .i64 un, .int .i64 us, .slice AU ur.length cU]) := Lib.hid (KU_20.out.below hbw_21 KU_20.out.lt)
        have KEV_21 : Hid (Els w_21 (fun b => b < w_7.heap.size) vr AV) := Lib.hid (KEV_20.out.below hbw_21)
        have KV_21 : Hid (Blk' w_21 (w_7.heap.size) 24 #[.int .i64 vt, .int .i64 vn, .int .i64 vs, .slice AV vr.length cV]) := Lib.hid (KV_20.out.below hbw_21 KV_20.out.lt)
        have KEK_21 : Hid (Els w_21 (fun b => b < w_9.heap.size) kr AK) := Lib.hid (KEK_20.out.below hbw_21)
        have KK_21 : Hid (Blk' w_21 (w_9.heap.size) 24 #[.int .i64 kt, .int .i64 kn, .int .i64 ks, .slice AK kr.length cK]) := Lib.hid (KK_20.out.below hbw_21 KK_20.out.lt)
        have KS1_21 : Hid (Blk' w_21 (b1) 31 #[.bool false, .int .i64 gs]) := Lib.hid (KS1_20.out.below hbw_21 KS1_20.out.lt)
        have KY1_21 : Hid (Blk' w_21 (w_13.heap.size) 31 #[.bool false, .int .i64 gn, .bool false, .int .i64 gs]) := Lib.hid (KY1_20.out.below hbw_21 KY1_20.out.lt)
        have KR1_21 : Hid (Blk' w_21 (w_13.heap.size + 1) 36 #[.int .i64 gn, .slice none 0 0, .int .i64 gn, .slice (some ⟨w_13.heap.size, 0, none⟩) 2 2]) := Lib.hid (KR1_20.out.below hbw_21 KR1_20.out.lt)
        have KE5_21 : Hid (Els w_21 (fun b => ((S b ∨ b = w_13.heap.size ∨ b = w_13.heap.size + 1) ∨ w_14.heap.size ≤ b) ∧ b < w_15.heap.size) kr A5) := Lib.hid (KE5_20.out.below hbw_21)
        have KZ_21 : Hid (Blk' w_21 (w_12.heap.size) 24 #[.int .i64 kt, .int .i64 kn, .int .i64 ks, .slice A5 kr.length c5]) := Lib.hid (KZ_20.out.below hbw_21 KZ_20.out.lt)
        have KS2_21 : Hid (Blk' w_21 (b2) 31 #[.bool false, .int .i64 (gn + hs)]) := Lib.hid (KS2_20.out.below hbw_21 KS2_20.out.lt)
        have KY2_21 : Hid (Blk' w_21 (w_18.heap.size) 31 #[.bool false, .int .i64 gs]) := Lib.hid (KY2_20.out.below hbw_21 KY2_20.out.lt)
        have KY3_21 : Hid (Blk' w_21 (w_18.heap.size + 1) 31 #[.bool false, .int .i64 (gn + hs)]) := Lib.hid (KY3_20.out.below hbw_21 KY3_20.out.lt)
        have KR2_21 : Hid (Blk' w_21 (w_18.heap.size + 1 + 1) 36 #[.int .i64 (gn + hn), .slice (some ⟨w_18.heap.size, 0, none⟩) 1 1, .int .i64 (gn + hn), .slice (some ⟨w_18.heap.size + 1, 0, none⟩) 1 1]) := Lib.hid (KR2_20.out.below hbw_21 KR2_20.out.lt)
        have KEX_21 : Hid (Els w_21 (fun b => b < w_20.heap.size) ur AX) := Lib.hid (KEX_20.out.below hbw_21)
        have QB_21 : Hid (Below w.heap.size w w_21) := Lib.hid (bthen QB_20.out hbw_21 QB_20.out.size)
        have sz_21 : w_20.heap.size + 1 ≤ w_21.heap.size := by rw [sqw_21]; exact Nat.le_refl _
        have KX_21 : Hid (Blk' w_21 (w_20.heap.size) 24 #[.int .i64 ut, .int .i64 un, .int .i64 us, .slice AX ur.length cX]) := Lib.hid (by rw [hww_21]; exact Blk'.new w_20 _ _)
        have HWw_21 := Lib.hid hww_21
        have SQw_21 := Lib.hid sqw_21
        clear hww_21 hbw_21 sqw_21
        clear KEA_20 KEB_20 KA_20 KB_20 KX0_20 KEU_20 KU_20 KEV_20 KV_20 KEK_20 KK_20 KS1_20 KY1_20 KR1_20 KE5_20 KZ_20 KS2_20 KY2_20 KY3_20 KR2_20 KEX_20 QB_20
        go_upto_region 19 with (fail)
        rw [← HWw_21.out]
        have cA_21_0 : w_21.cell? ⟨w.heap.size, 0, none⟩ = some (.int .i64 gt) := KA_21.out.cell 0
        have cA_21_1 : w_21.cell? ⟨w.heap.size, 1, none⟩ = some (.int .i64 gn) := KA_21.out.cell 1
        have cA_21_2 : w_21.cell? ⟨w.heap.size, 2, none⟩ = some (.int .i64 gs) := KA_21.out.cell 2
        have cA_21_3 : w_21.cell? ⟨w.heap.size, 3, none⟩ = some (.slice A rs.length c) := KA_21.out.cell 3
        have zA_21 : w.heap.size < w_21.heap.size := KA_21.out.lt
        have cB_21_0 : w_21.cell? ⟨w.heap.size + 1, 0, none⟩ = some (.int .i64 ht) := KB_21.out.cell 0
        have cB_21_1 : w_21.cell? ⟨w.heap.size + 1, 1, none⟩ = some (.int .i64 hn) := KB_21.out.cell 1
        have cB_21_2 : w_21.cell? ⟨w.heap.size + 1, 2, none⟩ = some (.int .i64 hs) := KB_21.out.cell 2
        have cB_21_3 : w_21.cell? ⟨w.heap.size + 1, 3, none⟩ = some (.slice B rs2.length d) := KB_21.out.cell 3
        have zB_21 : w.heap.size + 1 < w_21.heap.size := KB_21.out.lt
        have cS1_21_0 : w_21.cell? ⟨b1, 0, none⟩ = some (.bool false) := KS1_21.out.cell 0
        have cS1_21_1 : w_21.cell? ⟨b1, 1, none⟩ = some (.int .i64 gs) := KS1_21.out.cell 1
        have zS1_21 : b1 < w_21.heap.size := KS1_21.out.lt
        have cS2_21_0 : w_21.cell? ⟨b2, 0, none⟩ = some (.bool false) := KS2_21.out.cell 0
        have cS2_21_1 : w_21.cell? ⟨b2, 1, none⟩ = some (.int .i64 (gn + hs)) := KS2_21.out.cell 1
        have zS2_21 : b2 < w_21.heap.size := KS2_21.out.lt
        obtain ⟨w_22, hww_22⟩ : ∃ w_22 : World, w_22 = (w_21.alloc (.cells #[.bool false, .int .i64 gs, .bool false, .int .i64 (gn + hs)] 31)).alloc (.cells #[.int .i64 (gn + hn), .slice (some ⟨w_21.heap.size, 0, none⟩) 2 2] 36) := ⟨_, rfl⟩
        have hbw_22 : Below w_21.heap.size w_21 w_22 := by rw [hww_22]; exact ((Below.refl _ _).alloc (by first | exact Nat.le_refl _ | (simp; done) | (simp; omega)) _).alloc (by first | exact Nat.le_refl _ | (simp; done) | (simp; omega)) _
        have sqw_22 : w_22.heap.size = w_21.heap.size + 1 + 1 := by rw [hww_22]; simp
        have KEA_22 : Hid (Els w_22 S rs A) := Lib.hid (KEA_21.out.below hbw_22)
        have KEB_22 : Hid (Els w_22 S rs2 B) := Lib.hid (KEB_21.out.below hbw_22)
        have KA_22 : Hid (Blk' w_22 (w.heap.size) 24 #[.int .i64 gt, .int .i64 gn, .int .i64 gs, .slice A rs.length c]) := Lib.hid (KA_21.out.below hbw_22 KA_21.out.lt)
        have KB_22 : Hid (Blk' w_22 (w.heap.size + 1) 24 #[.int .i64 ht, .int .i64 hn, .int .i64 hs, .slice B rs2.length d]) := Lib.hid (KB_21.out.below hbw_22 KB_21.out.lt)
        have KX0_22 : Hid (Blk' w_22 (w_3.heap.size) 24 #[.int .i64 1, .int .i64 2, .int .i64 1, .slice A3 4 c3]) := Lib.hid (KX0_21.out.below hbw_22 KX0_21.out.lt)
        have KEU_22 : Hid (Els w_22 (fun b => b < w_5.heap.size) ur AU) := Lib.hid (KEU_21.out.below hbw_22)
        have KU_22 : Hid (Blk' w_22 (w_5.heap.size) 24 #[.int .i64 ut, .int .i64 un, .int .i64 us, .slice AU ur.length cU]) := Lib.hid (KU_21.out.below hbw_22 KU_21.out.lt)
        have KEV_22 : Hid (Els w_22 (fun b => b < w_7.heap.size) vr AV) := Lib.hid (KEV_21.out.below hbw_22)
        have KV_22 : Hid (Blk' w_22 (w_7.heap.size) 24 #[.int .i64 vt, .int .i64 vn, .int .i64 vs, .slice AV vr.length cV]) := Lib.hid (KV_21.out.below hbw_22 KV_21.out.lt)
        have KEK_22 : Hid (Els w_22 (fun b => b < w_9.heap.size) kr AK) := Lib.hid (KEK_21.out.below hbw_22)
        have KK_22 : Hid (Blk' w_22 (w_9.heap.size) 24 #[.int .i64 kt, .int .i64 kn, .int .i64 ks, .slice AK kr.length cK]) := Lib.hid (KK_21.out.below hbw_22 KK_21.out.lt)
        have KS1_22 : Hid (Blk' w_22 (b1) 31 #[.bool false, .int .i64 gs]) := Lib.hid (KS1_21.out.below hbw_22 KS1_21.out.lt)
        have KY1_22 : Hid (Blk' w_22 (w_13.heap.size) 31 #[.bool false, .int .i64 gn, .bool false, .int .i64 gs]) := Lib.hid (KY1_21.out.below hbw_22 KY1_21.out.lt)
        have KR1_22 : Hid (Blk' w_22 (w_13.heap.size + 1) 36 #[.int .i64 gn, .slice none 0 0, .int .i64 gn, .slice (some ⟨w_13.heap.size, 0, none⟩) 2 2]) := Lib.hid (KR1_21.out.below hbw_22 KR1_21.out.lt)
        have KE5_22 : Hid (Els w_22 (fun b => ((S b ∨ b = w_13.heap.size ∨ b = w_13.heap.size + 1) ∨ w_14.heap.size ≤ b) ∧ b < w_15.heap.size) kr A5) := Lib.hid (KE5_21.out.below hbw_22)
        have KZ_22 : Hid (Blk' w_22 (w_12.heap.size) 24 #[.int .i64 kt, .int .i64 kn, .int .i64 ks, .slice A5 kr.length c5]) := Lib.hid (KZ_21.out.below hbw_22 KZ_21.out.lt)
        have KS2_22 : Hid (Blk' w_22 (b2) 31 #[.bool false, .int .i64 (gn + hs)]) := Lib.hid (KS2_21.out.below hbw_22 KS2_21.out.lt)
        have KY2_22 : Hid (Blk' w_22 (w_18.heap.size) 31 #[.bool false, .int .i64 gs]) := Lib.hid (KY2_21.out.below hbw_22 KY2_21.out.lt)
        have KY3_22 : Hid (Blk' w_22 (w_18.heap.size + 1) 31 #[.bool false, .int .i64 (gn + hs)]) := Lib.hid (KY3_21.out.below hbw_22 KY3_21.out.lt)
        have KR2_22 : Hid (Blk' w_22 (w_18.heap.size + 1 + 1) 36 #[.int .i64 (gn + hn), .slice (some ⟨w_18.heap.size, 0, none⟩) 1 1, .int .i64 (gn + hn), .slice (some ⟨w_18.heap.size + 1, 0, none⟩) 1 1]) := Lib.hid (KR2_21.out.below hbw_22 KR2_21.out.lt)
        have KEX_22 : Hid (Els w_22 (fun b => b < w_20.heap.size) ur AX) := Lib.hid (KEX_21.out.below hbw_22)
        have KX_22 : Hid (Blk' w_22 (w_20.heap.size) 24 #[.int .i64 ut, .int .i64 un, .int .i64 us, .slice AX ur.length cX]) := Lib.hid (KX_21.out.below hbw_22 KX_21.out.lt)
        have QB_22 : Hid (Below w.heap.size w w_22) := Lib.hid (bthen QB_21.out hbw_22 QB_21.out.size)
        have sz_22 : w_21.heap.size + 1 + 1 ≤ w_22.heap.size := by rw [sqw_22]; exact Nat.le_refl _
        have KY4_22 : Hid (Blk' w_22 (w_21.heap.size) 31 #[.bool false, .int .i64 gs, .bool false, .int .i64 (gn + hs)]) := Lib.hid (by rw [hww_22]; exact (Blk'.new w_21 _ _).alloc _)
        have KR4_22 : Hid (Blk' w_22 (w_21.heap.size + 1) 36 #[.int .i64 (gn + hn), .slice (some ⟨w_21.heap.size, 0, none⟩) 2 2]) := Lib.hid (by rw [hww_22]; exact Blk'.new' (g := w_21.heap.size + 1) _ _ _ (by simp))
        have HWw_22 := Lib.hid hww_22
        have SQw_22 := Lib.hid sqw_22
        clear hww_22 hbw_22 sqw_22
        clear KEA_21 KEB_21 KA_21 KB_21 KX0_21 KEU_21 KU_21 KEV_21 KV_21 KEK_21 KK_21 KS1_21 KY1_21 KR1_21 KE5_21 KZ_21 KS2_21 KY2_21 KY3_21 KR2_21 KEX_21 KX_21 QB_21
        go_wp2_with fail
        rw [← HWw_22.out]
        clear cA_21_0 cA_21_1 cA_21_2 cA_21_3 zA_21 cB_21_0 cB_21_1 cB_21_2 cB_21_3 zB_21 cS1_21_0 cS1_21_1 zS1_21 cS2_21_0 cS2_21_1 zS2_21
        have hIn : I64 (gn + hn) ∧ I64 gs ∧ I64 (gn + hs) := by unfold I64; omega
        have HM : Hid (Els w_22 (fun b => b < w_22.heap.size) ([⟨gn + hn, [⟨false, gs⟩, ⟨false, gn + hs⟩]⟩] : List Rule) (some ⟨w_21.heap.size + 1, 0, none⟩)) := Lib.hid (by have hq := SQw_22.out; exact els_of_blk [[.int .i64 (gn + hn), .slice (some ⟨w_21.heap.size, 0, none⟩) 2 2]] KR4_22.out rfl rfl (rd_one ⟨_, rfl, hIn.1, Vl.of_slice rfl (by simp) (by omega) (els_of_blk [[.bool false, .int .i64 gs], [.bool false, .int .i64 (gn + hs)]] KY4_22.out rfl rfl (rd_two ⟨rfl, hIn.2.1⟩ ⟨rfl, hIn.2.2⟩) (by omega))⟩) (by omega))
        have hput : Calls Tryd.prog 15 #[.agg #[.int .i64 gt, .int .i64 gn, .int .i64 gs, .slice A rs.length c], .agg #[.int .i64 ht, .int .i64 hn, .int .i64 hs, .slice B rs2.length d], .int .i64 (-1), .slice (some ⟨w_21.heap.size + 1, 0, none⟩) 1 1] w_22 (RetQ (fun b => b < w_22.heap.size) ⟨⟨vt, vn, vs, vr⟩, ve⟩ w_22) := by
          have h := put_ref ⟨gt, gn, gs, rs⟩ ⟨ht, hn, hs, rs2⟩ (-1) ([⟨gn + hn, [⟨false, gs⟩, ⟨false, gn + hs⟩]⟩] : List Rule) A B (some ⟨w_21.heap.size + 1, 0, none⟩) c d 1 (fun b => b < w_22.heap.size) w_22 HVg.out HVh.out.1 HVh.out.2 (by simp) hlc hc (KEA_22.out.keep (fun _ _ _ => rfl) (fun b hb => by have := HS.out b hb; omega)) hld hd (KEB_22.out.keep (fun _ _ _ => rfl) (fun b hb => by have := HS.out b hb; omega)) (by simp) (by omega) HM.out (fun b hb => hb)
          have e := putAll_c (h := ⟨ht, hn, hs, rs2⟩) HVg.out
          dsimp only at e
          rw [e, ← HVe.out] at h
          exact h
        clear HM hIn
        refine (hput).mono ?_
        rintro e w_23 ⟨AW, cW, rfl, hlW, hcW, hEW, hbz⟩
        dsimp only at hlW hEW
        have HEW := Lib.hid hEW
        clear hEW
        have KEA_23 : Hid (Els w_23 S rs A) := Lib.hid (KEA_22.out.below hbz)
        have KEB_23 : Hid (Els w_23 S rs2 B) := Lib.hid (KEB_22.out.below hbz)
        have KA_23 : Hid (Blk' w_23 (w.heap.size) 24 #[.int .i64 gt, .int .i64 gn, .int .i64 gs, .slice A rs.length c]) := Lib.hid (KA_22.out.below hbz KA_22.out.lt)
        have KB_23 : Hid (Blk' w_23 (w.heap.size + 1) 24 #[.int .i64 ht, .int .i64 hn, .int .i64 hs, .slice B rs2.length d]) := Lib.hid (KB_22.out.below hbz KB_22.out.lt)
        have KX0_23 : Hid (Blk' w_23 (w_3.heap.size) 24 #[.int .i64 1, .int .i64 2, .int .i64 1, .slice A3 4 c3]) := Lib.hid (KX0_22.out.below hbz KX0_22.out.lt)
        have KEU_23 : Hid (Els w_23 (fun b => b < w_5.heap.size) ur AU) := Lib.hid (KEU_22.out.below hbz)
        have KU_23 : Hid (Blk' w_23 (w_5.heap.size) 24 #[.int .i64 ut, .int .i64 un, .int .i64 us, .slice AU ur.length cU]) := Lib.hid (KU_22.out.below hbz KU_22.out.lt)
        have KEV_23 : Hid (Els w_23 (fun b => b < w_7.heap.size) vr AV) := Lib.hid (KEV_22.out.below hbz)
        have KV_23 : Hid (Blk' w_23 (w_7.heap.size) 24 #[.int .i64 vt, .int .i64 vn, .int .i64 vs, .slice AV vr.length cV]) := Lib.hid (KV_22.out.below hbz KV_22.out.lt)
        have KEK_23 : Hid (Els w_23 (fun b => b < w_9.heap.size) kr AK) := Lib.hid (KEK_22.out.below hbz)
        have KK_23 : Hid (Blk' w_23 (w_9.heap.size) 24 #[.int .i64 kt, .int .i64 kn, .int .i64 ks, .slice AK kr.length cK]) := Lib.hid (KK_22.out.below hbz KK_22.out.lt)
        have KS1_23 : Hid (Blk' w_23 (b1) 31 #[.bool false, .int .i64 gs]) := Lib.hid (KS1_22.out.below hbz KS1_22.out.lt)
        have KY1_23 : Hid (Blk' w_23 (w_13.heap.size) 31 #[.bool false, .int .i64 gn, .bool false, .int .i64 gs]) := Lib.hid (KY1_22.out.below hbz KY1_22.out.lt)
        have KR1_23 : Hid (Blk' w_23 (w_13.heap.size + 1) 36 #[.int .i64 gn, .slice none 0 0, .int .i64 gn, .slice (some ⟨w_13.heap.size, 0, none⟩) 2 2]) := Lib.hid (KR1_22.out.below hbz KR1_22.out.lt)
        have KE5_23 : Hid (Els w_23 (fun b => ((S b ∨ b = w_13.heap.size ∨ b = w_13.heap.size + 1) ∨ w_14.heap.size ≤ b) ∧ b < w_15.heap.size) kr A5) := Lib.hid (KE5_22.out.below hbz)
        have KZ_23 : Hid (Blk' w_23 (w_12.heap.size) 24 #[.int .i64 kt, .int .i64 kn, .int .i64 ks, .slice A5 kr.length c5]) := Lib.hid (KZ_22.out.below hbz KZ_22.out.lt)
        have KS2_23 : Hid (Blk' w_23 (b2) 31 #[.bool false, .int .i64 (gn + hs)]) := Lib.hid (KS2_22.out.below hbz KS2_22.out.lt)
        have KY2_23 : Hid (Blk' w_23 (w_18.heap.size) 31 #[.bool false, .int .i64 gs]) := Lib.hid (KY2_22.out.below hbz KY2_22.out.lt)
        have KY3_23 : Hid (Blk' w_23 (w_18.heap.size + 1) 31 #[.bool false, .int .i64 (gn + hs)]) := Lib.hid (KY3_22.out.below hbz KY3_22.out.lt)
        have KR2_23 : Hid (Blk' w_23 (w_18.heap.size + 1 + 1) 36 #[.int .i64 (gn + hn), .slice (some ⟨w_18.heap.size, 0, none⟩) 1 1, .int .i64 (gn + hn), .slice (some ⟨w_18.heap.size + 1, 0, none⟩) 1 1]) := Lib.hid (KR2_22.out.below hbz KR2_22.out.lt)
        have KEX_23 : Hid (Els w_23 (fun b => b < w_20.heap.size) ur AX) := Lib.hid (KEX_22.out.below hbz)
        have KX_23 : Hid (Blk' w_23 (w_20.heap.size) 24 #[.int .i64 ut, .int .i64 un, .int .i64 us, .slice AX ur.length cX]) := Lib.hid (KX_22.out.below hbz KX_22.out.lt)
        have KY4_23 : Hid (Blk' w_23 (w_21.heap.size) 31 #[.bool false, .int .i64 gs, .bool false, .int .i64 (gn + hs)]) := Lib.hid (KY4_22.out.below hbz KY4_22.out.lt)
        have KR4_23 : Hid (Blk' w_23 (w_21.heap.size + 1) 36 #[.int .i64 (gn + hn), .slice (some ⟨w_21.heap.size, 0, none⟩) 2 2]) := Lib.hid (KR4_22.out.below hbz KR4_22.out.lt)
        have QB_23 : Hid (Below w.heap.size w w_23) := Lib.hid (bthen QB_22.out hbz QB_22.out.size)
        have sz_23 : w_22.heap.size ≤ w_23.heap.size := (hbz).size
        clear hbz
        clear KEA_22 KEB_22 KA_22 KB_22 KX0_22 KEU_22 KU_22 KEV_22 KV_22 KEK_22 KK_22 KS1_22 KY1_22 KR1_22 KE5_22 KZ_22 KS2_22 KY2_22 KY3_22 KR2_22 KEX_22 KX_22 KY4_22 KR4_22 QB_22
        have KEW_23 : Hid (Els w_23 (fun b => b < w_23.heap.size) vr AW) := Lib.hid (HEW.out.keep (fun _ _ _ => rfl) (fun b hb => hb.2))
        obtain ⟨w_24, hww_24⟩ : ∃ w_24 : World, w_24 = w_23.alloc (.cells #[.int .i64 vt, .int .i64 vn, .int .i64 vs, .slice AW vr.length cW] 24) := ⟨_, rfl⟩
        have hbw_24 : Below w_23.heap.size w_23 w_24 := by rw [hww_24]; exact (Below.refl _ _).alloc (by first | exact Nat.le_refl _ | (simp; done) | (simp; omega)) _
        have sqw_24 : w_24.heap.size = w_23.heap.size + 1 := by rw [hww_24]; simp
        have KEA_24 : Hid (Els w_24 S rs A) := Lib.hid (KEA_23.out.below hbw_24)
        have KEB_24 : Hid (Els w_24 S rs2 B) := Lib.hid (KEB_23.out.below hbw_24)
        have KA_24 : Hid (Blk' w_24 (w.heap.size) 24 #[.int .i64 gt, .int .i64 gn, .int .i64 gs, .slice A rs.length c]) := Lib.hid (KA_23.out.below hbw_24 KA_23.out.lt)
        have KB_24 : Hid (Blk' w_24 (w.heap.size + 1) 24 #[.int .i64 ht, .int .i64 hn, .int .i64 hs, .slice B rs2.length d]) := Lib.hid (KB_23.out.below hbw_24 KB_23.out.lt)
        have KX0_24 : Hid (Blk' w_24 (w_3.heap.size) 24 #[.int .i64 1, .int .i64 2, .int .i64 1, .slice A3 4 c3]) := Lib.hid (KX0_23.out.below hbw_24 KX0_23.out.lt)
        have KEU_24 : Hid (Els w_24 (fun b => b < w_5.heap.size) ur AU) := Lib.hid (KEU_23.out.below hbw_24)
        have KU_24 : Hid (Blk' w_24 (w_5.heap.size) 24 #[.int .i64 ut, .int .i64 un, .int .i64 us, .slice AU ur.length cU]) := Lib.hid (KU_23.out.below hbw_24 KU_23.out.lt)
        have KEV_24 : Hid (Els w_24 (fun b => b < w_7.heap.size) vr AV) := Lib.hid (KEV_23.out.below hbw_24)
        have KV_24 : Hid (Blk' w_24 (w_7.heap.size) 24 #[.int .i64 vt, .int .i64 vn, .int .i64 vs, .slice AV vr.length cV]) := Lib.hid (KV_23.out.below hbw_24 KV_23.out.lt)
        have KEK_24 : Hid (Els w_24 (fun b => b < w_9.heap.size) kr AK) := Lib.hid (KEK_23.out.below hbw_24)
        have KK_24 : Hid (Blk' w_24 (w_9.heap.size) 24 #[.int .i64 kt, .int .i64 kn, .int .i64 ks, .slice AK kr.length cK]) := Lib.hid (KK_23.out.below hbw_24 KK_23.out.lt)
        have KS1_24 : Hid (Blk' w_24 (b1) 31 #[.bool false, .int .i64 gs]) := Lib.hid (KS1_23.out.below hbw_24 KS1_23.out.lt)
        have KY1_24 : Hid (Blk' w_24 (w_13.heap.size) 31 #[.bool false, .int .i64 gn, .bool false, .int .i64 gs]) := Lib.hid (KY1_23.out.below hbw_24 KY1_23.out.lt)
        have KR1_24 : Hid (Blk' w_24 (w_13.heap.size + 1) 36 #[.int .i64 gn, .slice none 0 0, .int .i64 gn, .slice (some ⟨w_13.heap.size, 0, none⟩) 2 2]) := Lib.hid (KR1_23.out.below hbw_24 KR1_23.out.lt)
        have KE5_24 : Hid (Els w_24 (fun b => ((S b ∨ b = w_13.heap.size ∨ b = w_13.heap.size + 1) ∨ w_14.heap.size ≤ b) ∧ b < w_15.heap.size) kr A5) := Lib.hid (KE5_23.out.below hbw_24)
        have KZ_24 : Hid (Blk' w_24 (w_12.heap.size) 24 #[.int .i64 kt, .int .i64 kn, .int .i64 ks, .slice A5 kr.length c5]) := Lib.hid (KZ_23.out.below hbw_24 KZ_23.out.lt)
        have KS2_24 : Hid (Blk' w_24 (b2) 31 #[.bool false, .int .i64 (gn + hs)]) := Lib.hid (KS2_23.out.below hbw_24 KS2_23.out.lt)
        have KY2_24 : Hid (Blk' w_24 (w_18.heap.size) 31 #[.bool false, .int .i64 gs]) := Lib.hid (KY2_23.out.below hbw_24 KY2_23.out.lt)
        have KY3_24 : Hid (Blk' w_24 (w_18.heap.size + 1) 31 #[.bool false, .int .i64 (gn + hs)]) := Lib.hid (KY3_23.out.below hbw_24 KY3_23.out.lt)
        have KR2_24 : Hid (Blk' w_24 (w_18.heap.size + 1 + 1) 36 #[.int .i64 (gn + hn), .slice (some ⟨w_18.heap.size, 0, none⟩) 1 1, .int .i64 (gn + hn), .slice (some ⟨w_18.heap.size + 1, 0, none⟩) 1 1]) := Lib.hid (KR2_23.out.below hbw_24 KR2_23.out.lt)
        have KEX_24 : Hid (Els w_24 (fun b => b < w_20.heap.size) ur AX) := Lib.hid (KEX_23.out.below hbw_24)
        have KX_24 : Hid (Blk' w_24 (w_20.heap.size) 24 #[.int .i64 ut, .int .i64 un, .int .i64 us, .slice AX ur.length cX]) := Lib.hid (KX_23.out.below hbw_24 KX_23.out.lt)
        have KY4_24 : Hid (Blk' w_24 (w_21.heap.size) 31 #[.bool false, .int .i64 gs, .bool false, .int .i64 (gn + hs)]) := Lib.hid (KY4_23.out.below hbw_24 KY4_23.out.lt)
        have KR4_24 : Hid (Blk' w_24 (w_21.heap.size + 1) 36 #[.int .i64 (gn + hn), .slice (some ⟨w_21.heap.size, 0, none⟩) 2 2]) := Lib.hid (KR4_23.out.below hbw_24 KR4_23.out.lt)
        have KEW_24 : Hid (Els w_24 (fun b => b < w_23.heap.size) vr AW) := Lib.hid (KEW_23.out.below hbw_24)
        have QB_24 : Hid (Below w.heap.size w w_24) := Lib.hid (bthen QB_23.out hbw_24 QB_23.out.size)
        have sz_24 : w_23.heap.size + 1 ≤ w_24.heap.size := by rw [sqw_24]; exact Nat.le_refl _
        have KW_24 : Hid (Blk' w_24 (w_23.heap.size) 24 #[.int .i64 vt, .int .i64 vn, .int .i64 vs, .slice AW vr.length cW]) := Lib.hid (by rw [hww_24]; exact Blk'.new w_23 _ _)
        have HWw_24 := Lib.hid hww_24
        have SQw_24 := Lib.hid sqw_24
        clear hww_24 hbw_24 sqw_24
        clear KEA_23 KEB_23 KA_23 KB_23 KX0_23 KEU_23 KU_23 KEV_23 KV_23 KEK_23 KK_23 KS1_23 KY1_23 KR1_23 KE5_23 KZ_23 KS2_23 KY2_23 KY3_23 KR2_23 KEX_23 KX_23 KY4_23 KR4_23 KEW_23 QB_23
        go_upto_region 20 with (fail)
        rw [← HWw_24.out]
        have cU_24_0 : w_24.cell? ⟨w_5.heap.size, 0, none⟩ = some (.int .i64 ut) := KU_24.out.cell 0
        have cU_24_1 : w_24.cell? ⟨w_5.heap.size, 1, none⟩ = some (.int .i64 un) := KU_24.out.cell 1
        have cU_24_2 : w_24.cell? ⟨w_5.heap.size, 2, none⟩ = some (.int .i64 us) := KU_24.out.cell 2
        have cU_24_3 : w_24.cell? ⟨w_5.heap.size, 3, none⟩ = some (.slice AU ur.length cU) := KU_24.out.cell 3
        have zU_24 : w_5.heap.size < w_24.heap.size := KU_24.out.lt
        have cX_24_0 : w_24.cell? ⟨w_20.heap.size, 0, none⟩ = some (.int .i64 ut) := KX_24.out.cell 0
        have cX_24_1 : w_24.cell? ⟨w_20.heap.size, 1, none⟩ = some (.int .i64 un) := KX_24.out.cell 1
        have cX_24_2 : w_24.cell? ⟨w_20.heap.size, 2, none⟩ = some (.int .i64 us) := KX_24.out.cell 2
        have cX_24_3 : w_24.cell? ⟨w_20.heap.size, 3, none⟩ = some (.slice AX ur.length cX) := KX_24.out.cell 3
        have zX_24 : w_20.heap.size < w_24.heap.size := KX_24.out.lt
        go_wp2_with fail
        refine (same_true ⟨ut, un, us, ur⟩ ⟨ut, un, us, ur⟩ AU AX cU cX _ _ _ rfl ⟨hlU, hcU⟩ ⟨hlX, hcX⟩ KEU_24.out KEX_24.out).mono ?_
        rintro e w_25 ⟨rfl, hbz⟩
        clear cU_24_0 cU_24_1 cU_24_2 cU_24_3 zU_24 cX_24_0 cX_24_1 cX_24_2 cX_24_3 zX_24
        have KEA_25 : Hid (Els w_25 S rs A) := Lib.hid (KEA_24.out.below hbz)
        have KEB_25 : Hid (Els w_25 S rs2 B) := Lib.hid (KEB_24.out.below hbz)
        have KA_25 : Hid (Blk' w_25 (w.heap.size) 24 #[.int .i64 gt, .int .i64 gn, .int .i64 gs, .slice A rs.length c]) := Lib.hid (KA_24.out.below hbz KA_24.out.lt)
        have KB_25 : Hid (Blk' w_25 (w.heap.size + 1) 24 #[.int .i64 ht, .int .i64 hn, .int .i64 hs, .slice B rs2.length d]) := Lib.hid (KB_24.out.below hbz KB_24.out.lt)
        have KX0_25 : Hid (Blk' w_25 (w_3.heap.size) 24 #[.int .i64 1, .int .i64 2, .int .i64 1, .slice A3 4 c3]) := Lib.hid (KX0_24.out.below hbz KX0_24.out.lt)
        have KEU_25 : Hid (Els w_25 (fun b => b < w_5.heap.size) ur AU) := Lib.hid (KEU_24.out.below hbz)
        have KU_25 : Hid (Blk' w_25 (w_5.heap.size) 24 #[.int .i64 ut, .int .i64 un, .int .i64 us, .slice AU ur.length cU]) := Lib.hid (KU_24.out.below hbz KU_24.out.lt)
        have KEV_25 : Hid (Els w_25 (fun b => b < w_7.heap.size) vr AV) := Lib.hid (KEV_24.out.below hbz)
        have KV_25 : Hid (Blk' w_25 (w_7.heap.size) 24 #[.int .i64 vt, .int .i64 vn, .int .i64 vs, .slice AV vr.length cV]) := Lib.hid (KV_24.out.below hbz KV_24.out.lt)
        have KEK_25 : Hid (Els w_25 (fun b => b < w_9.heap.size) kr AK) := Lib.hid (KEK_24.out.below hbz)
        have KK_25 : Hid (Blk' w_25 (w_9.heap.size) 24 #[.int .i64 kt, .int .i64 kn, .int .i64 ks, .slice AK kr.length cK]) := Lib.hid (KK_24.out.below hbz KK_24.out.lt)
        have KS1_25 : Hid (Blk' w_25 (b1) 31 #[.bool false, .int .i64 gs]) := Lib.hid (KS1_24.out.below hbz KS1_24.out.lt)
        have KY1_25 : Hid (Blk' w_25 (w_13.heap.size) 31 #[.bool false, .int .i64 gn, .bool false, .int .i64 gs]) := Lib.hid (KY1_24.out.below hbz KY1_24.out.lt)
        have KR1_25 : Hid (Blk' w_25 (w_13.heap.size + 1) 36 #[.int .i64 gn, .slice none 0 0, .int .i64 gn, .slice (some ⟨w_13.heap.size, 0, none⟩) 2 2]) := Lib.hid (KR1_24.out.below hbz KR1_24.out.lt)
        have KE5_25 : Hid (Els w_25 (fun b => ((S b ∨ b = w_13.heap.size ∨ b = w_13.heap.size + 1) ∨ w_14.heap.size ≤ b) ∧ b < w_15.heap.size) kr A5) := Lib.hid (KE5_24.out.below hbz)
        have KZ_25 : Hid (Blk' w_25 (w_12.heap.size) 24 #[.int .i64 kt, .int .i64 kn, .int .i64 ks, .slice A5 kr.length c5]) := Lib.hid (KZ_24.out.below hbz KZ_24.out.lt)
        have KS2_25 : Hid (Blk' w_25 (b2) 31 #[.bool false, .int .i64 (gn + hs)]) := Lib.hid (KS2_24.out.below hbz KS2_24.out.lt)
        have KY2_25 : Hid (Blk' w_25 (w_18.heap.size) 31 #[.bool false, .int .i64 gs]) := Lib.hid (KY2_24.out.below hbz KY2_24.out.lt)
        have KY3_25 : Hid (Blk' w_25 (w_18.heap.size + 1) 31 #[.bool false, .int .i64 (gn + hs)]) := Lib.hid (KY3_24.out.below hbz KY3_24.out.lt)
        have KR2_25 : Hid (Blk' w_25 (w_18.heap.size + 1 + 1) 36 #[.int .i64 (gn + hn), .slice (some ⟨w_18.heap.size, 0, none⟩) 1 1, .int .i64 (gn + hn), .slice (some ⟨w_18.heap.size + 1, 0, none⟩) 1 1]) := Lib.hid (KR2_24.out.below hbz KR2_24.out.lt)
        have KEX_25 : Hid (Els w_25 (fun b => b < w_20.heap.size) ur AX) := Lib.hid (KEX_24.out.below hbz)
        have KX_25 : Hid (Blk' w_25 (w_20.heap.size) 24 #[.int .i64 ut, .int .i64 un, .int .i64 us, .slice AX ur.length cX]) := Lib.hid (KX_24.out.below hbz KX_24.out.lt)
        have KY4_25 : Hid (Blk' w_25 (w_21.heap.size) 31 #[.bool false, .int .i64 gs, .bool false, .int .i64 (gn + hs)]) := Lib.hid (KY4_24.out.below hbz KY4_24.out.lt)
        have KR4_25 : Hid (Blk' w_25 (w_21.heap.size + 1) 36 #[.int .i64 (gn + hn), .slice (some ⟨w_21.heap.size, 0, none⟩) 2 2]) := Lib.hid (KR4_24.out.below hbz KR4_24.out.lt)
        have KEW_25 : Hid (Els w_25 (fun b => b < w_23.heap.size) vr AW) := Lib.hid (KEW_24.out.below hbz)
        have KW_25 : Hid (Blk' w_25 (w_23.heap.size) 24 #[.int .i64 vt, .int .i64 vn, .int .i64 vs, .slice AW vr.length cW]) := Lib.hid (KW_24.out.below hbz KW_24.out.lt)
        have QB_25 : Hid (Below w.heap.size w w_25) := Lib.hid (bthen QB_24.out hbz QB_24.out.size)
        have sz_25 : w_24.heap.size ≤ w_25.heap.size := (hbz).size
        clear hbz
        clear KEA_24 KEB_24 KA_24 KB_24 KX0_24 KEU_24 KU_24 KEV_24 KV_24 KEK_24 KK_24 KS1_24 KY1_24 KR1_24 KE5_24 KZ_24 KS2_24 KY2_24 KY3_24 KR2_24 KEX_24 KX_24 KY4_24 KR4_24 KEW_24 KW_24 QB_24
        have cV_25_0 : w_25.cell? ⟨w_7.heap.size, 0, none⟩ = some (.int .i64 vt) := KV_25.out.cell 0
        have cV_25_1 : w_25.cell? ⟨w_7.heap.size, 1, none⟩ = some (.int .i64 vn) := KV_25.out.cell 1
        have cV_25_2 : w_25.cell? ⟨w_7.heap.size, 2, none⟩ = some (.int .i64 vs) := KV_25.out.cell 2
        have cV_25_3 : w_25.cell? ⟨w_7.heap.size, 3, none⟩ = some (.slice AV vr.length cV) := KV_25.out.cell 3
        have zV_25 : w_7.heap.size < w_25.heap.size := KV_25.out.lt
        have cW_25_0 : w_25.cell? ⟨w_23.heap.size, 0, none⟩ = some (.int .i64 vt) := KW_25.out.cell 0
        have cW_25_1 : w_25.cell? ⟨w_23.heap.size, 1, none⟩ = some (.int .i64 vn) := KW_25.out.cell 1
        have cW_25_2 : w_25.cell? ⟨w_23.heap.size, 2, none⟩ = some (.int .i64 vs) := KW_25.out.cell 2
        have cW_25_3 : w_25.cell? ⟨w_23.heap.size, 3, none⟩ = some (.slice AW vr.length cW) := KW_25.out.cell 3
        have zW_25 : w_23.heap.size < w_25.heap.size := KW_25.out.lt
        go_wp2_with fail
        refine (same_true ⟨vt, vn, vs, vr⟩ ⟨vt, vn, vs, vr⟩ AV AW cV cW _ _ _ rfl ⟨hlV, hcV⟩ ⟨hlW, hcW⟩ KEV_25.out KEW_25.out).mono ?_
        rintro e w_26 ⟨rfl, hbz⟩
        clear cV_25_0 cV_25_1 cV_25_2 cV_25_3 zV_25 cW_25_0 cW_25_1 cW_25_2 cW_25_3 zW_25
        have KEA_26 : Hid (Els w_26 S rs A) := Lib.hid (KEA_25.out.below hbz)
        have KEB_26 : Hid (Els w_26 S rs2 B) := Lib.hid (KEB_25.out.below hbz)
        have KA_26 : Hid (Blk' w_26 (w.heap.size) 24 #[.int .i64 gt, .int .i64 gn, .int .i64 gs, .slice A rs.length c]) := Lib.hid (KA_25.out.below hbz KA_25.out.lt)
        have KB_26 : Hid (Blk' w_26 (w.heap.size + 1) 24 #[.int .i64 ht, .int .i64 hn, .int .i64 hs, .slice B rs2.length d]) := Lib.hid (KB_25.out.below hbz KB_25.out.lt)
        have KX0_26 : Hid (Blk' w_26 (w_3.heap.size) 24 #[.int .i64 1, .int .i64 2, .int .i64 1, .slice A3 4 c3]) := Lib.hid (KX0_25.out.below hbz KX0_25.out.lt)
        have KEU_26 : Hid (Els w_26 (fun b => b < w_5.heap.size) ur AU) := Lib.hid (KEU_25.out.below hbz)
        have KU_26 : Hid (Blk' w_26 (w_5.heap.size) 24 #[.int .i64 ut, .int .i64 un, .int .i64 us, .slice AU ur.length cU]) := Lib.hid (KU_25.out.below hbz KU_25.out.lt)
        have KEV_26 : Hid (Els w_26 (fun b => b < w_7.heap.size) vr AV) := Lib.hid (KEV_25.out.below hbz)
        have KV_26 : Hid (Blk' w_26 (w_7.heap.size) 24 #[.int .i64 vt, .int .i64 vn, .int .i64 vs, .slice AV vr.length cV]) := Lib.hid (KV_25.out.below hbz KV_25.out.lt)
        have KEK_26 : Hid (Els w_26 (fun b => b < w_9.heap.size) kr AK) := Lib.hid (KEK_25.out.below hbz)
        have KK_26 : Hid (Blk' w_26 (w_9.heap.size) 24 #[.int .i64 kt, .int .i64 kn, .int .i64 ks, .slice AK kr.length cK]) := Lib.hid (KK_25.out.below hbz KK_25.out.lt)
        have KS1_26 : Hid (Blk' w_26 (b1) 31 #[.bool false, .int .i64 gs]) := Lib.hid (KS1_25.out.below hbz KS1_25.out.lt)
        have KY1_26 : Hid (Blk' w_26 (w_13.heap.size) 31 #[.bool false, .int .i64 gn, .bool false, .int .i64 gs]) := Lib.hid (KY1_25.out.below hbz KY1_25.out.lt)
        have KR1_26 : Hid (Blk' w_26 (w_13.heap.size + 1) 36 #[.int .i64 gn, .slice none 0 0, .int .i64 gn, .slice (some ⟨w_13.heap.size, 0, none⟩) 2 2]) := Lib.hid (KR1_25.out.below hbz KR1_25.out.lt)
        have KE5_26 : Hid (Els w_26 (fun b => ((S b ∨ b = w_13.heap.size ∨ b = w_13.heap.size + 1) ∨ w_14.heap.size ≤ b) ∧ b < w_15.heap.size) kr A5) := Lib.hid (KE5_25.out.below hbz)
        have KZ_26 : Hid (Blk' w_26 (w_12.heap.size) 24 #[.int .i64 kt, .int .i64 kn, .int .i64 ks, .slice A5 kr.length c5]) := Lib.hid (KZ_25.out.below hbz KZ_25.out.lt)
        have KS2_26 : Hid (Blk' w_26 (b2) 31 #[.bool false, .int .i64 (gn + hs)]) := Lib.hid (KS2_25.out.below hbz KS2_25.out.lt)
        have KY2_26 : Hid (Blk' w_26 (w_18.heap.size) 31 #[.bool false, .int .i64 gs]) := Lib.hid (KY2_25.out.below hbz KY2_25.out.lt)
        have KY3_26 : Hid (Blk' w_26 (w_18.heap.size + 1) 31 #[.bool false, .int .i64 (gn + hs)]) := Lib.hid (KY3_25.out.below hbz KY3_25.out.lt)
        have KR2_26 : Hid (Blk' w_26 (w_18.heap.size + 1 + 1) 36 #[.int .i64 (gn + hn), .slice (some ⟨w_18.heap.size, 0, none⟩) 1 1, .int .i64 (gn + hn), .slice (some ⟨w_18.heap.size + 1, 0, none⟩) 1 1]) := Lib.hid (KR2_25.out.below hbz KR2_25.out.lt)
        have KEX_26 : Hid (Els w_26 (fun b => b < w_20.heap.size) ur AX) := Lib.hid (KEX_25.out.below hbz)
        have KX_26 : Hid (Blk' w_26 (w_20.heap.size) 24 #[.int .i64 ut, .int .i64 un, .int .i64 us, .slice AX ur.length cX]) := Lib.hid (KX_25.out.below hbz KX_25.out.lt)
        have KY4_26 : Hid (Blk' w_26 (w_21.heap.size) 31 #[.bool false, .int .i64 gs, .bool false, .int .i64 (gn + hs)]) := Lib.hid (KY4_25.out.below hbz KY4_25.out.lt)
        have KR4_26 : Hid (Blk' w_26 (w_21.heap.size + 1) 36 #[.int .i64 (gn + hn), .slice (some ⟨w_21.heap.size, 0, none⟩) 2 2]) := Lib.hid (KR4_25.out.below hbz KR4_25.out.lt)
        have KEW_26 : Hid (Els w_26 (fun b => b < w_23.heap.size) vr AW) := Lib.hid (KEW_25.out.below hbz)
        have KW_26 : Hid (Blk' w_26 (w_23.heap.size) 24 #[.int .i64 vt, .int .i64 vn, .int .i64 vs, .slice AW vr.length cW]) := Lib.hid (KW_25.out.below hbz KW_25.out.lt)
        have QB_26 : Hid (Below w.heap.size w w_26) := Lib.hid (bthen QB_25.out hbz QB_25.out.size)
        have sz_26 : w_25.heap.size ≤ w_26.heap.size := (hbz).size
        clear hbz
        clear KEA_25 KEB_25 KA_25 KB_25 KX0_25 KEU_25 KU_25 KEV_25 KV_25 KEK_25 KK_25 KS1_25 KY1_25 KR1_25 KE5_25 KZ_25 KS2_25 KY2_25 KY3_25 KR2_25 KEX_25 KX_25 KY4_25 KR4_25 KEW_25 KW_25 QB_25
        go_wp2
        go_ret
        exact ⟨rfl, QB_26.out⟩
      · skip
        have hub := HU.out
        rw [pairR_bad (by rw [← HP.out]; exact hP0), ← HP.out] at hub
        injection hub with hub1 hub2
        injection hub1 with h1 h2 h3 h4
        subst h1; subst h2; subst h3; subst h4; subst hub2
        have hvb := HV.out
        rw [pairR_bad (by rw [← HP.out]; exact hP0), ← HP.out] at hvb
        injection hvb with hvb1 hvb2
        injection hvb1 with h1 h2 h3 h4
        subst h1; subst h2; subst h3; subst h4; subst hvb2
        have cU_18_0 : w_18.cell? ⟨w_5.heap.size, 0, none⟩ = some (.int .i64 0) := KU_18.out.cell 0
        have cU_18_1 : w_18.cell? ⟨w_5.heap.size, 1, none⟩ = some (.int .i64 0) := KU_18.out.cell 1
        have cU_18_2 : w_18.cell? ⟨w_5.heap.size, 2, none⟩ = some (.int .i64 0) := KU_18.out.cell 2
        have cU_18_3 : w_18.cell? ⟨w_5.heap.size, 3, none⟩ = some (.slice AU ([] : List Rule).length cU) := KU_18.out.cell 3
        have zU_18 : w_5.heap.size < w_18.heap.size := KU_18.out.lt
        have cV_18_0 : w_18.cell? ⟨w_7.heap.size, 0, none⟩ = some (.int .i64 0) := KV_18.out.cell 0
        have cV_18_1 : w_18.cell? ⟨w_7.heap.size, 1, none⟩ = some (.int .i64 0) := KV_18.out.cell 1
        have cV_18_2 : w_18.cell? ⟨w_7.heap.size, 2, none⟩ = some (.int .i64 0) := KV_18.out.cell 2
        have cV_18_3 : w_18.cell? ⟨w_7.heap.size, 3, none⟩ = some (.slice AV ([] : List Rule).length cV) := KV_18.out.cell 3
        have zV_18 : w_7.heap.size < w_18.heap.size := KV_18.out.lt
        go_wp2_with fail
        refine (same_true zeroG zeroG AU none cU 0 (fun _ => True) (fun _ => True) _ rfl ⟨by simp [zeroG], hcU⟩ ⟨by simp [zeroG], by omega⟩ (fun h => absurd rfl h) (fun h => absurd rfl h)).mono ?_
        rintro e w_19 ⟨rfl, hbz⟩
        clear cU_18_0 cU_18_1 cU_18_2 cU_18_3 zU_18 cV_18_0 cV_18_1 cV_18_2 cV_18_3 zV_18
        have KEA_19 : Hid (Els w_19 S rs A) := Lib.hid (KEA_18.out.below hbz)
        have KEB_19 : Hid (Els w_19 S rs2 B) := Lib.hid (KEB_18.out.below hbz)
        have KA_19 : Hid (Blk' w_19 (w.heap.size) 24 #[.int .i64 gt, .int .i64 gn, .int .i64 gs, .slice A rs.length c]) := Lib.hid (KA_18.out.below hbz KA_18.out.lt)
        have KB_19 : Hid (Blk' w_19 (w.heap.size + 1) 24 #[.int .i64 ht, .int .i64 hn, .int .i64 hs, .slice B rs2.length d]) := Lib.hid (KB_18.out.below hbz KB_18.out.lt)
        have KX0_19 : Hid (Blk' w_19 (w_3.heap.size) 24 #[.int .i64 1, .int .i64 2, .int .i64 1, .slice A3 4 c3]) := Lib.hid (KX0_18.out.below hbz KX0_18.out.lt)
        have KEU_19 : Hid (Els w_19 (fun b => b < w_5.heap.size) ([] : List Rule) AU) := Lib.hid (KEU_18.out.below hbz)
        have KU_19 : Hid (Blk' w_19 (w_5.heap.size) 24 #[.int .i64 0, .int .i64 0, .int .i64 0, .slice AU ([] : List Rule).length cU]) := Lib.hid (KU_18.out.below hbz KU_18.out.lt)
        have KEV_19 : Hid (Els w_19 (fun b => b < w_7.heap.size) ([] : List Rule) AV) := Lib.hid (KEV_18.out.below hbz)
        have KV_19 : Hid (Blk' w_19 (w_7.heap.size) 24 #[.int .i64 0, .int .i64 0, .int .i64 0, .slice AV ([] : List Rule).length cV]) := Lib.hid (KV_18.out.below hbz KV_18.out.lt)
        have KEK_19 : Hid (Els w_19 (fun b => b < w_9.heap.size) kr AK) := Lib.hid (KEK_18.out.below hbz)
        have KK_19 : Hid (Blk' w_19 (w_9.heap.size) 24 #[.int .i64 kt, .int .i64 kn, .int .i64 ks, .slice AK kr.length cK]) := Lib.hid (KK_18.out.below hbz KK_18.out.lt)
        have KS1_19 : Hid (Blk' w_19 (b1) 31 #[.bool false, .int .i64 gs]) := Lib.hid (KS1_18.out.below hbz KS1_18.out.lt)
        have KS2_19 : Hid (Blk' w_19 (b2) 31 #[.bool false, .int .i64 (wrap64 (gn + hs))]) := Lib.hid (KS2_18.out.below hbz KS2_18.out.lt)
        have KY1_19 : Hid (Blk' w_19 (w_13.heap.size) 31 #[.bool false, .int .i64 gn, .bool false, .int .i64 gs]) := Lib.hid (KY1_18.out.below hbz KY1_18.out.lt)
        have KR1_19 : Hid (Blk' w_19 (w_13.heap.size + 1) 36 #[.int .i64 gn, .slice none 0 0, .int .i64 gn, .slice (some ⟨w_13.heap.size, 0, none⟩) 2 2]) := Lib.hid (KR1_18.out.below hbz KR1_18.out.lt)
        have KE5_19 : Hid (Els w_19 (fun b => ((S b ∨ b = w_13.heap.size ∨ b = w_13.heap.size + 1) ∨ w_14.heap.size ≤ b) ∧ b < w_15.heap.size) kr A5) := Lib.hid (KE5_18.out.below hbz)
        have KZ_19 : Hid (Blk' w_19 (w_12.heap.size) 24 #[.int .i64 kt, .int .i64 kn, .int .i64 ks, .slice A5 kr.length c5]) := Lib.hid (KZ_18.out.below hbz KZ_18.out.lt)
        have QB_19 : Hid (Below w.heap.size w w_19) := Lib.hid (bthen QB_18.out hbz QB_18.out.size)
        have sz_19 : w_18.heap.size ≤ w_19.heap.size := (hbz).size
        clear hbz
        clear KEA_18 KEB_18 KA_18 KB_18 KX0_18 KEU_18 KU_18 KEV_18 KV_18 KEK_18 KK_18 KS1_18 KS2_18 KY1_18 KR1_18 KE5_18 KZ_18 QB_18
        have cV_19_0 : w_19.cell? ⟨w_7.heap.size, 0, none⟩ = some (.int .i64 0) := KV_19.out.cell 0
        have cV_19_1 : w_19.cell? ⟨w_7.heap.size, 1, none⟩ = some (.int .i64 0) := KV_19.out.cell 1
        have cV_19_2 : w_19.cell? ⟨w_7.heap.size, 2, none⟩ = some (.int .i64 0) := KV_19.out.cell 2
        have cV_19_3 : w_19.cell? ⟨w_7.heap.size, 3, none⟩ = some (.slice AV ([] : List Rule).length cV) := KV_19.out.cell 3
        have zV_19 : w_7.heap.size < w_19.heap.size := KV_19.out.lt
        go_wp2_with fail
        refine (same_true zeroG zeroG AV none cV 0 (fun _ => True) (fun _ => True) _ rfl ⟨by simp [zeroG], hcV⟩ ⟨by simp [zeroG], by omega⟩ (fun h => absurd rfl h) (fun h => absurd rfl h)).mono ?_
        rintro e w_20 ⟨rfl, hbz⟩
        clear cV_19_0 cV_19_1 cV_19_2 cV_19_3 zV_19
        have KEA_20 : Hid (Els w_20 S rs A) := Lib.hid (KEA_19.out.below hbz)
        have KEB_20 : Hid (Els w_20 S rs2 B) := Lib.hid (KEB_19.out.below hbz)
        have KA_20 : Hid (Blk' w_20 (w.heap.size) 24 #[.int .i64 gt, .int .i64 gn, .int .i64 gs, .slice A rs.length c]) := Lib.hid (KA_19.out.below hbz KA_19.out.lt)
        have KB_20 : Hid (Blk' w_20 (w.heap.size + 1) 24 #[.int .i64 ht, .int .i64 hn, .int .i64 hs, .slice B rs2.length d]) := Lib.hid (KB_19.out.below hbz KB_19.out.lt)
        have KX0_20 : Hid (Blk' w_20 (w_3.heap.size) 24 #[.int .i64 1, .int .i64 2, .int .i64 1, .slice A3 4 c3]) := Lib.hid (KX0_19.out.below hbz KX0_19.out.lt)
        have KEU_20 : Hid (Els w_20 (fun b => b < w_5.heap.size) ([] : List Rule) AU) := Lib.hid (KEU_19.out.below hbz)
        have KU_20 : Hid (Blk' w_20 (w_5.heap.size) 24 #[.int .i64 0, .int .i64 0, .int .i64 0, .slice AU ([] : List Rule).length cU]) := Lib.hid (KU_19.out.below hbz KU_19.out.lt)
        have KEV_20 : Hid (Els w_20 (fun b => b < w_7.heap.size) ([] : List Rule) AV) := Lib.hid (KEV_19.out.below hbz)
        have KV_20 : Hid (Blk' w_20 (w_7.heap.size) 24 #[.int .i64 0, .int .i64 0, .int .i64 0, .slice AV ([] : List Rule).length cV]) := Lib.hid (KV_19.out.below hbz KV_19.out.lt)
        have KEK_20 : Hid (Els w_20 (fun b => b < w_9.heap.size) kr AK) := Lib.hid (KEK_19.out.below hbz)
        have KK_20 : Hid (Blk' w_20 (w_9.heap.size) 24 #[.int .i64 kt, .int .i64 kn, .int .i64 ks, .slice AK kr.length cK]) := Lib.hid (KK_19.out.below hbz KK_19.out.lt)
        have KS1_20 : Hid (Blk' w_20 (b1) 31 #[.bool false, .int .i64 gs]) := Lib.hid (KS1_19.out.below hbz KS1_19.out.lt)
        have KS2_20 : Hid (Blk' w_20 (b2) 31 #[.bool false, .int .i64 (wrap64 (gn + hs))]) := Lib.hid (KS2_19.out.below hbz KS2_19.out.lt)
        have KY1_20 : Hid (Blk' w_20 (w_13.heap.size) 31 #[.bool false, .int .i64 gn, .bool false, .int .i64 gs]) := Lib.hid (KY1_19.out.below hbz KY1_19.out.lt)
        have KR1_20 : Hid (Blk' w_20 (w_13.heap.size + 1) 36 #[.int .i64 gn, .slice none 0 0, .int .i64 gn, .slice (some ⟨w_13.heap.size, 0, none⟩) 2 2]) := Lib.hid (KR1_19.out.below hbz KR1_19.out.lt)
        have KE5_20 : Hid (Els w_20 (fun b => ((S b ∨ b = w_13.heap.size ∨ b = w_13.heap.size + 1) ∨ w_14.heap.size ≤ b) ∧ b < w_15.heap.size) kr A5) := Lib.hid (KE5_19.out.below hbz)
        have KZ_20 : Hid (Blk' w_20 (w_12.heap.size) 24 #[.int .i64 kt, .int .i64 kn, .int .i64 ks, .slice A5 kr.length c5]) := Lib.hid (KZ_19.out.below hbz KZ_19.out.lt)
        have QB_20 : Hid (Below w.heap.size w w_20) := Lib.hid (bthen QB_19.out hbz QB_19.out.size)
        have sz_20 : w_19.heap.size ≤ w_20.heap.size := (hbz).size
        clear hbz
        clear KEA_19 KEB_19 KA_19 KB_19 KX0_19 KEU_19 KU_19 KEV_19 KV_19 KEK_19 KK_19 KS1_19 KS2_19 KY1_19 KR1_19 KE5_19 KZ_19 QB_19
        go_wp2
        go_ret
        exact ⟨rfl, QB_20.out⟩
    · skip
      have hke := HK.out
      unfold starR at hke
      rw [if_neg (by rw [← HE.out]; exact hE0), ← HE.out] at hke
      injection hke with hk1 hk2
      injection hk1 with h1 h2 h3 h4
      subst h1; subst h2; subst h3; subst h4; subst hk2
      have hPE : P = ke := by rw [HP.out, HE.out]; unfold pairE firstE; simp [← HE.out, hE0]
      have hP0 : ¬ P = 0 := by rw [hPE]; exact hE0
      clear hPE
      have cK_13_0 : w_13.cell? ⟨w_9.heap.size, 0, none⟩ = some (.int .i64 0) := KK_13.out.cell 0
      have cK_13_1 : w_13.cell? ⟨w_9.heap.size, 1, none⟩ = some (.int .i64 0) := KK_13.out.cell 1
      have cK_13_2 : w_13.cell? ⟨w_9.heap.size, 2, none⟩ = some (.int .i64 0) := KK_13.out.cell 2
      have cK_13_3 : w_13.cell? ⟨w_9.heap.size, 3, none⟩ = some (.slice AK ([] : List Rule).length cK) := KK_13.out.cell 3
      have zK_13 : w_9.heap.size < w_13.heap.size := KK_13.out.lt
      have cZ_13_0 : w_13.cell? ⟨w_12.heap.size, 0, none⟩ = some (.int .i64 0) := KZ_13.out.cell 0
      have cZ_13_1 : w_13.cell? ⟨w_12.heap.size, 1, none⟩ = some (.int .i64 0) := KZ_13.out.cell 1
      have cZ_13_2 : w_13.cell? ⟨w_12.heap.size, 2, none⟩ = some (.int .i64 0) := KZ_13.out.cell 2
      have cZ_13_3 : w_13.cell? ⟨w_12.heap.size, 3, none⟩ = some (.slice none 0 0) := KZ_13.out.cell 3
      have zZ_13 : w_12.heap.size < w_13.heap.size := KZ_13.out.lt
      go_wp2_with fail
      refine (same_true zeroG zeroG AK none cK 0 (fun _ => True) (fun _ => True) _ rfl ⟨by simp [zeroG], hcK⟩ ⟨by simp [zeroG], by omega⟩ (fun h => absurd rfl h) (fun h => absurd rfl h)).mono ?_
      rintro e w_14 ⟨rfl, hbz⟩
      clear cK_13_0 cK_13_1 cK_13_2 cK_13_3 zK_13 cZ_13_0 cZ_13_1 cZ_13_2 cZ_13_3 zZ_13
      have KEA_14 : Hid (Els w_14 S rs A) := Lib.hid (KEA_13.out.below hbz)
      have KEB_14 : Hid (Els w_14 S rs2 B) := Lib.hid (KEB_13.out.below hbz)
      have KA_14 : Hid (Blk' w_14 (w.heap.size) 24 #[.int .i64 gt, .int .i64 gn, .int .i64 gs, .slice A rs.length c]) := Lib.hid (KA_13.out.below hbz KA_13.out.lt)
      have KB_14 : Hid (Blk' w_14 (w.heap.size + 1) 24 #[.int .i64 ht, .int .i64 hn, .int .i64 hs, .slice B rs2.length d]) := Lib.hid (KB_13.out.below hbz KB_13.out.lt)
      have KX0_14 : Hid (Blk' w_14 (w_3.heap.size) 24 #[.int .i64 1, .int .i64 2, .int .i64 1, .slice A3 4 c3]) := Lib.hid (KX0_13.out.below hbz KX0_13.out.lt)
      have KEU_14 : Hid (Els w_14 (fun b => b < w_5.heap.size) ur AU) := Lib.hid (KEU_13.out.below hbz)
      have KU_14 : Hid (Blk' w_14 (w_5.heap.size) 24 #[.int .i64 ut, .int .i64 un, .int .i64 us, .slice AU ur.length cU]) := Lib.hid (KU_13.out.below hbz KU_13.out.lt)
      have KEV_14 : Hid (Els w_14 (fun b => b < w_7.heap.size) vr AV) := Lib.hid (KEV_13.out.below hbz)
      have KV_14 : Hid (Blk' w_14 (w_7.heap.size) 24 #[.int .i64 vt, .int .i64 vn, .int .i64 vs, .slice AV vr.length cV]) := Lib.hid (KV_13.out.below hbz KV_13.out.lt)
      have KEK_14 : Hid (Els w_14 (fun b => b < w_9.heap.size) ([] : List Rule) AK) := Lib.hid (KEK_13.out.below hbz)
      have KK_14 : Hid (Blk' w_14 (w_9.heap.size) 24 #[.int .i64 0, .int .i64 0, .int .i64 0, .slice AK ([] : List Rule).length cK]) := Lib.hid (KK_13.out.below hbz KK_13.out.lt)
      have KS1_14 : Hid (Blk' w_14 (b1) 31 #[.bool false, .int .i64 gs]) := Lib.hid (KS1_13.out.below hbz KS1_13.out.lt)
      have KS2_14 : Hid (Blk' w_14 (b2) 31 #[.bool false, .int .i64 (wrap64 (gn + hs))]) := Lib.hid (KS2_13.out.below hbz KS2_13.out.lt)
      have KZ_14 : Hid (Blk' w_14 (w_12.heap.size) 24 #[.int .i64 0, .int .i64 0, .int .i64 0, .slice none 0 0]) := Lib.hid (KZ_13.out.below hbz KZ_13.out.lt)
      have QB_14 : Hid (Below w.heap.size w w_14) := Lib.hid (bthen QB_13.out hbz QB_13.out.size)
      have sz_14 : w_13.heap.size ≤ w_14.heap.size := (hbz).size
      clear hbz
      clear KEA_13 KEB_13 KA_13 KB_13 KX0_13 KEU_13 KU_13 KEV_13 KV_13 KEK_13 KK_13 KS1_13 KS2_13 KZ_13 QB_13
      have cA_14_0 : w_14.cell? ⟨w.heap.size, 0, none⟩ = some (.int .i64 gt) := KA_14.out.cell 0
      have cA_14_1 : w_14.cell? ⟨w.heap.size, 1, none⟩ = some (.int .i64 gn) := KA_14.out.cell 1
      have cA_14_2 : w_14.cell? ⟨w.heap.size, 2, none⟩ = some (.int .i64 gs) := KA_14.out.cell 2
      have cA_14_3 : w_14.cell? ⟨w.heap.size, 3, none⟩ = some (.slice A rs.length c) := KA_14.out.cell 3
      have zA_14 : w.heap.size < w_14.heap.size := KA_14.out.lt
      have cB_14_0 : w_14.cell? ⟨w.heap.size + 1, 0, none⟩ = some (.int .i64 ht) := KB_14.out.cell 0
      have cB_14_1 : w_14.cell? ⟨w.heap.size + 1, 1, none⟩ = some (.int .i64 hn) := KB_14.out.cell 1
      have cB_14_2 : w_14.cell? ⟨w.heap.size + 1, 2, none⟩ = some (.int .i64 hs) := KB_14.out.cell 2
      have cB_14_3 : w_14.cell? ⟨w.heap.size + 1, 3, none⟩ = some (.slice B rs2.length d) := KB_14.out.cell 3
      have zB_14 : w.heap.size + 1 < w_14.heap.size := KB_14.out.lt
      go_upto_region 14 with (fail)
      go_wp2_with fail
      refine (pairErr_any ⟨gt, gn, gs, rs⟩ ⟨ht, hn, hs, rs2⟩ A B c d S _ HI.out.1 HI.out.2 hlc hc KEA_14.out hld hd KEB_14.out (fun b hb => by have := HS.out b hb; omega)).mono ?_
      rintro e w_15 ⟨rfl, hbz⟩
      clear cA_14_0 cA_14_1 cA_14_2 cA_14_3 zA_14 cB_14_0 cB_14_1 cB_14_2 cB_14_3 zB_14
      have KEA_15 : Hid (Els w_15 S rs A) := Lib.hid (KEA_14.out.below hbz)
      have KEB_15 : Hid (Els w_15 S rs2 B) := Lib.hid (KEB_14.out.below hbz)
      have KA_15 : Hid (Blk' w_15 (w.heap.size) 24 #[.int .i64 gt, .int .i64 gn, .int .i64 gs, .slice A rs.length c]) := Lib.hid (KA_14.out.below hbz KA_14.out.lt)
      have KB_15 : Hid (Blk' w_15 (w.heap.size + 1) 24 #[.int .i64 ht, .int .i64 hn, .int .i64 hs, .slice B rs2.length d]) := Lib.hid (KB_14.out.below hbz KB_14.out.lt)
      have KX0_15 : Hid (Blk' w_15 (w_3.heap.size) 24 #[.int .i64 1, .int .i64 2, .int .i64 1, .slice A3 4 c3]) := Lib.hid (KX0_14.out.below hbz KX0_14.out.lt)
      have KEU_15 : Hid (Els w_15 (fun b => b < w_5.heap.size) ur AU) := Lib.hid (KEU_14.out.below hbz)
      have KU_15 : Hid (Blk' w_15 (w_5.heap.size) 24 #[.int .i64 ut, .int .i64 un, .int .i64 us, .slice AU ur.length cU]) := Lib.hid (KU_14.out.below hbz KU_14.out.lt)
      have KEV_15 : Hid (Els w_15 (fun b => b < w_7.heap.size) vr AV) := Lib.hid (KEV_14.out.below hbz)
      have KV_15 : Hid (Blk' w_15 (w_7.heap.size) 24 #[.int .i64 vt, .int .i64 vn, .int .i64 vs, .slice AV vr.length cV]) := Lib.hid (KV_14.out.below hbz KV_14.out.lt)
      have KEK_15 : Hid (Els w_15 (fun b => b < w_9.heap.size) ([] : List Rule) AK) := Lib.hid (KEK_14.out.below hbz)
      have KK_15 : Hid (Blk' w_15 (w_9.heap.size) 24 #[.int .i64 0, .int .i64 0, .int .i64 0, .slice AK ([] : List Rule).length cK]) := Lib.hid (KK_14.out.below hbz KK_14.out.lt)
      have KS1_15 : Hid (Blk' w_15 (b1) 31 #[.bool false, .int .i64 gs]) := Lib.hid (KS1_14.out.below hbz KS1_14.out.lt)
      have KS2_15 : Hid (Blk' w_15 (b2) 31 #[.bool false, .int .i64 (wrap64 (gn + hs))]) := Lib.hid (KS2_14.out.below hbz KS2_14.out.lt)
      have KZ_15 : Hid (Blk' w_15 (w_12.heap.size) 24 #[.int .i64 0, .int .i64 0, .int .i64 0, .slice none 0 0]) := Lib.hid (KZ_14.out.below hbz KZ_14.out.lt)
      have QB_15 : Hid (Below w.heap.size w w_15) := Lib.hid (bthen QB_14.out hbz QB_14.out.size)
      have sz_15 : w_14.heap.size ≤ w_15.heap.size := (hbz).size
      clear hbz
      clear KEA_14 KEB_14 KA_14 KB_14 KX0_14 KEU_14 KU_14 KEV_14 KV_14 KEK_14 KK_14 KS1_14 KS2_14 KZ_14 QB_14
      rw [← HP.out]
      have hub := HU.out
      rw [pairR_bad (by rw [← HP.out]; exact hP0), ← HP.out] at hub
      injection hub with hub1 hub2
      injection hub1 with h1 h2 h3 h4
      subst h1; subst h2; subst h3; subst h4; subst hub2
      have hvb := HV.out
      rw [pairR_bad (by rw [← HP.out]; exact hP0), ← HP.out] at hvb
      injection hvb with hvb1 hvb2
      injection hvb1 with h1 h2 h3 h4
      subst h1; subst h2; subst h3; subst h4; subst hvb2
      have cU_15_0 : w_15.cell? ⟨w_5.heap.size, 0, none⟩ = some (.int .i64 0) := KU_15.out.cell 0
      have cU_15_1 : w_15.cell? ⟨w_5.heap.size, 1, none⟩ = some (.int .i64 0) := KU_15.out.cell 1
      have cU_15_2 : w_15.cell? ⟨w_5.heap.size, 2, none⟩ = some (.int .i64 0) := KU_15.out.cell 2
      have cU_15_3 : w_15.cell? ⟨w_5.heap.size, 3, none⟩ = some (.slice AU ([] : List Rule).length cU) := KU_15.out.cell 3
      have zU_15 : w_5.heap.size < w_15.heap.size := KU_15.out.lt
      have cV_15_0 : w_15.cell? ⟨w_7.heap.size, 0, none⟩ = some (.int .i64 0) := KV_15.out.cell 0
      have cV_15_1 : w_15.cell? ⟨w_7.heap.size, 1, none⟩ = some (.int .i64 0) := KV_15.out.cell 1
      have cV_15_2 : w_15.cell? ⟨w_7.heap.size, 2, none⟩ = some (.int .i64 0) := KV_15.out.cell 2
      have cV_15_3 : w_15.cell? ⟨w_7.heap.size, 3, none⟩ = some (.slice AV ([] : List Rule).length cV) := KV_15.out.cell 3
      have zV_15 : w_7.heap.size < w_15.heap.size := KV_15.out.lt
      go_wp2_with fail
      refine (same_true zeroG zeroG AU none cU 0 (fun _ => True) (fun _ => True) _ rfl ⟨by simp [zeroG], hcU⟩ ⟨by simp [zeroG], by omega⟩ (fun h => absurd rfl h) (fun h => absurd rfl h)).mono ?_
      rintro e w_16 ⟨rfl, hbz⟩
      clear cU_15_0 cU_15_1 cU_15_2 cU_15_3 zU_15 cV_15_0 cV_15_1 cV_15_2 cV_15_3 zV_15
      have KEA_16 : Hid (Els w_16 S rs A) := Lib.hid (KEA_15.out.below hbz)
      have KEB_16 : Hid (Els w_16 S rs2 B) := Lib.hid (KEB_15.out.below hbz)
      have KA_16 : Hid (Blk' w_16 (w.heap.size) 24 #[.int .i64 gt, .int .i64 gn, .int .i64 gs, .slice A rs.length c]) := Lib.hid (KA_15.out.below hbz KA_15.out.lt)
      have KB_16 : Hid (Blk' w_16 (w.heap.size + 1) 24 #[.int .i64 ht, .int .i64 hn, .int .i64 hs, .slice B rs2.length d]) := Lib.hid (KB_15.out.below hbz KB_15.out.lt)
      have KX0_16 : Hid (Blk' w_16 (w_3.heap.size) 24 #[.int .i64 1, .int .i64 2, .int .i64 1, .slice A3 4 c3]) := Lib.hid (KX0_15.out.below hbz KX0_15.out.lt)
      have KEU_16 : Hid (Els w_16 (fun b => b < w_5.heap.size) ([] : List Rule) AU) := Lib.hid (KEU_15.out.below hbz)
      have KU_16 : Hid (Blk' w_16 (w_5.heap.size) 24 #[.int .i64 0, .int .i64 0, .int .i64 0, .slice AU ([] : List Rule).length cU]) := Lib.hid (KU_15.out.below hbz KU_15.out.lt)
      have KEV_16 : Hid (Els w_16 (fun b => b < w_7.heap.size) ([] : List Rule) AV) := Lib.hid (KEV_15.out.below hbz)
      have KV_16 : Hid (Blk' w_16 (w_7.heap.size) 24 #[.int .i64 0, .int .i64 0, .int .i64 0, .slice AV ([] : List Rule).length cV]) := Lib.hid (KV_15.out.below hbz KV_15.out.lt)
      have KEK_16 : Hid (Els w_16 (fun b => b < w_9.heap.size) ([] : List Rule) AK) := Lib.hid (KEK_15.out.below hbz)
      have KK_16 : Hid (Blk' w_16 (w_9.heap.size) 24 #[.int .i64 0, .int .i64 0, .int .i64 0, .slice AK ([] : List Rule).length cK]) := Lib.hid (KK_15.out.below hbz KK_15.out.lt)
      have KS1_16 : Hid (Blk' w_16 (b1) 31 #[.bool false, .int .i64 gs]) := Lib.hid (KS1_15.out.below hbz KS1_15.out.lt)
      have KS2_16 : Hid (Blk' w_16 (b2) 31 #[.bool false, .int .i64 (wrap64 (gn + hs))]) := Lib.hid (KS2_15.out.below hbz KS2_15.out.lt)
      have KZ_16 : Hid (Blk' w_16 (w_12.heap.size) 24 #[.int .i64 0, .int .i64 0, .int .i64 0, .slice none 0 0]) := Lib.hid (KZ_15.out.below hbz KZ_15.out.lt)
      have QB_16 : Hid (Below w.heap.size w w_16) := Lib.hid (bthen QB_15.out hbz QB_15.out.size)
      have sz_16 : w_15.heap.size ≤ w_16.heap.size := (hbz).size
      clear hbz
      clear KEA_15 KEB_15 KA_15 KB_15 KX0_15 KEU_15 KU_15 KEV_15 KV_15 KEK_15 KK_15 KS1_15 KS2_15 KZ_15 QB_15
      have cV_16_0 : w_16.cell? ⟨w_7.heap.size, 0, none⟩ = some (.int .i64 0) := KV_16.out.cell 0
      have cV_16_1 : w_16.cell? ⟨w_7.heap.size, 1, none⟩ = some (.int .i64 0) := KV_16.out.cell 1
      have cV_16_2 : w_16.cell? ⟨w_7.heap.size, 2, none⟩ = some (.int .i64 0) := KV_16.out.cell 2
      have cV_16_3 : w_16.cell? ⟨w_7.heap.size, 3, none⟩ = some (.slice AV ([] : List Rule).length cV) := KV_16.out.cell 3
      have zV_16 : w_7.heap.size < w_16.heap.size := KV_16.out.lt
      go_wp2_with fail
      refine (same_true zeroG zeroG AV none cV 0 (fun _ => True) (fun _ => True) _ rfl ⟨by simp [zeroG], hcV⟩ ⟨by simp [zeroG], by omega⟩ (fun h => absurd rfl h) (fun h => absurd rfl h)).mono ?_
      rintro e w_17 ⟨rfl, hbz⟩
      clear cV_16_0 cV_16_1 cV_16_2 cV_16_3 zV_16
      have KEA_17 : Hid (Els w_17 S rs A) := Lib.hid (KEA_16.out.below hbz)
      have KEB_17 : Hid (Els w_17 S rs2 B) := Lib.hid (KEB_16.out.below hbz)
      have KA_17 : Hid (Blk' w_17 (w.heap.size) 24 #[.int .i64 gt, .int .i64 gn, .int .i64 gs, .slice A rs.length c]) := Lib.hid (KA_16.out.below hbz KA_16.out.lt)
      have KB_17 : Hid (Blk' w_17 (w.heap.size + 1) 24 #[.int .i64 ht, .int .i64 hn, .int .i64 hs, .slice B rs2.length d]) := Lib.hid (KB_16.out.below hbz KB_16.out.lt)
      have KX0_17 : Hid (Blk' w_17 (w_3.heap.size) 24 #[.int .i64 1, .int .i64 2, .int .i64 1, .slice A3 4 c3]) := Lib.hid (KX0_16.out.below hbz KX0_16.out.lt)
      have KEU_17 : Hid (Els w_17 (fun b => b < w_5.heap.size) ([] : List Rule) AU) := Lib.hid (KEU_16.out.below hbz)
      have KU_17 : Hid (Blk' w_17 (w_5.heap.size) 24 #[.int .i64 0, .int .i64 0, .int .i64 0, .slice AU ([] : List Rule).length cU]) := Lib.hid (KU_16.out.below hbz KU_16.out.lt)
      have KEV_17 : Hid (Els w_17 (fun b => b < w_7.heap.size) ([] : List Rule) AV) := Lib.hid (KEV_16.out.below hbz)
      have KV_17 : Hid (Blk' w_17 (w_7.heap.size) 24 #[.int .i64 0, .int .i64 0, .int .i64 0, .slice AV ([] : List Rule).length cV]) := Lib.hid (KV_16.out.below hbz KV_16.out.lt)
      have KEK_17 : Hid (Els w_17 (fun b => b < w_9.heap.size) ([] : List Rule) AK) := Lib.hid (KEK_16.out.below hbz)
      have KK_17 : Hid (Blk' w_17 (w_9.heap.size) 24 #[.int .i64 0, .int .i64 0, .int .i64 0, .slice AK ([] : List Rule).length cK]) := Lib.hid (KK_16.out.below hbz KK_16.out.lt)
      have KS1_17 : Hid (Blk' w_17 (b1) 31 #[.bool false, .int .i64 gs]) := Lib.hid (KS1_16.out.below hbz KS1_16.out.lt)
      have KS2_17 : Hid (Blk' w_17 (b2) 31 #[.bool false, .int .i64 (wrap64 (gn + hs))]) := Lib.hid (KS2_16.out.below hbz KS2_16.out.lt)
      have KZ_17 : Hid (Blk' w_17 (w_12.heap.size) 24 #[.int .i64 0, .int .i64 0, .int .i64 0, .slice none 0 0]) := Lib.hid (KZ_16.out.below hbz KZ_16.out.lt)
      have QB_17 : Hid (Below w.heap.size w w_17) := Lib.hid (bthen QB_16.out hbz QB_16.out.size)
      have sz_17 : w_16.heap.size ≤ w_17.heap.size := (hbz).size
      clear hbz
      clear KEA_16 KEB_16 KA_16 KB_16 KX0_16 KEU_16 KU_16 KEV_16 KV_16 KEK_16 KK_16 KS1_16 KS2_16 KZ_16 QB_16
      go_wp2
      go_ret
      exact ⟨rfl, QB_17.out⟩

theorem closedSays_row (g h : Gram) (v u : Value) (W : World) (h0 : Vl W (OldS W) g v) (h1 : Vl W (OldS W) h u) :
    Calls Tryd.prog 3 #[v, u] W fun e W' => e = .returned (.bool true) ∧ Below W.heap.size W W' := by
  obtain ⟨s, rfl, k1, k2, k3, hs⟩ := h0.gram
  obtain ⟨A, c, rfl, hlc, hc, hA⟩ := hs.slice
  obtain ⟨s2, rfl, j1, j2, j3, hs2⟩ := h1.gram
  obtain ⟨B, d, rfl, hld, hd, hB⟩ := hs2.slice
  exact closedSays_any g h A B c d (OldS W) W ⟨k1, k2, k3⟩ ⟨j1, j2, j3⟩ hlc hc hA hld hd hB (fun b h => h)
end Go.Proofs.YtehndgmgljlioaaDoor
