/- The walk of the law ClosedPuts: Reverse, Mirror and Put against the reference. (closed.Mirror's contract is a premise.) -/
import Derived.Test.YtaidadjekfcacaaDoorQPutMore
import Derived.Test.YtaidadjekfcacaaDoorQReverse
import Derived.Test.YtaidadjekfcacaaDoorQCopyB
import Derived.Test.YtaidadjekfcacaaDoorQRevSym
import Derived.Test.YtaidadjekfcacaaDoorQMirrored
import Derived.Test.YtaidadjekfcacaaDoorQMirror
import Derived.Test.YtaidadjekfcacaaDoorQp1
import Derived.Test.YtaidadjekfcacaaDoorQSameTreeD
import Derived.Test.YtaidadjekfcacaaDoorQGramErr
import Derived.Deep.RegionWith
import Derived.Deep.DeepCutAuto
import Derived.Deep.RegionHeld3
namespace Go.Proofs.YtaidadjekfcacaaDoor
open Go.RowKit
set_option linter.unusedVariables false

/-- What Reverse comes to. -/
def revRR (g : Gram) : Gram × Int := if checkI g = 0 then (revG g, 0) else (zeroG, checkI g)
theorem reverseP_any (g : Gram) (A : Option Addr) (c : Nat) (S : Nat → Prop) (w : World) (h64 : I64 g.terms ∧ I64 g.nons ∧ I64 g.start) (hlc : g.rules.length ≤ c) (hc : c ≤ 9223372036854775807) (hA : Els w S g.rules A) (hS : ∀ b, S b → b < w.heap.size) :
    Calls Tryd.prog 21 #[.agg #[.int .i64 g.terms, .int .i64 g.nons, .int .i64 g.start, .slice A g.rules.length c]] w (RetP (revRR g) w) := by
  unfold revRR
  by_cases hck : checkI g = 0
  · rw [if_pos hck]
    refine (reverse_any g A c S w hck hlc hc hA hS).mono fun e w' h => ?_
    obtain ⟨A', c', he, h1, h2, h3, h4⟩ := h
    exact ⟨A', c', by rw [he]; simp [revG], by simpa [revG] using h1, h2, h3, h4⟩
  · rw [if_neg hck]
    exact (reverseBad_any g A c S w hck h64 hlc hc hA hS).mono fun _ _ h => h.p
theorem revRR_bad {g : Gram} (h0 : ¬ checkI g = 0) : revRR g = (zeroG, checkI g) := by unfold revRR; rw [if_neg h0]
theorem putRR_inv {g h : Gram} {x : Int} (h0 : ¬ checkI g = 0) : putRR g h x = (zeroG, checkI g) := by
  have hf : firstE [g, h] = checkI g := by unfold firstE; rw [if_pos h0]
  unfold putRR
  rw [hf, if_neg h0]
def WantL (gt gn gs : Int) (rs : List Rule) (Z : Nat) (wz : World) (i : Value) (wr : World) : Prop :=
  ∃ (m : Nat) (v : Value), m ≤ rs.length ∧ i = .int .i64 m ∧ Own wr (fun _ => False) wz.heap.size 61 v ((rs.take m).map revR) ∧ Blk' wr Z 25 #[.int .i64 gt, .int .i64 gn, .int .i64 gs, v] ∧ Kept (fun b => b = Z) wz wr
def MirrorSpec : Prop := ∀ (S : Nat → Prop) (t : Tree) (B : Option Addr) (d : Nat) (w : World), I64 t.rule → I64 t.term → nodesT t ≤ 1100000 → t.kids.length ≤ d → d ≤ 9223372036854775807 → (∀ b, S b → b < w.heap.size) → Els w S t.kids B →
    Calls Tryd.prog 23 #[.agg #[.int .i64 t.rule, .int .i64 t.term, .slice B t.kids.length d]] w (RetMi (mirT t) w)

set_option maxRecDepth 100000 in
set_option maxHeartbeats 16000000 in
theorem closedPuts_any (hMir : MirrorSpec) (g h : Gram) (x : Int) (t : Tree) (A B C : Option Addr) (c d f : Nat) (S : Nat → Prop) (w : World) (h64 : I64 g.terms ∧ I64 g.nons ∧ I64 g.start) (h64h : I64 h.terms ∧ I64 h.nons ∧ I64 h.start) (hlc : g.rules.length ≤ c) (hc : c ≤ 9223372036854775807) (hA : Els w S g.rules A) (hld : h.rules.length ≤ d) (hd : d ≤ 9223372036854775807) (hB : Els w S h.rules B) (hr : I64 t.rule) (ht : I64 t.term) (hlf : t.kids.length ≤ f) (hf : f ≤ 9223372036854775807) (hC : Els w S t.kids C) (hn : nodesT t ≤ 1100000) (hS : ∀ b, S b → b < w.heap.size) :
    Calls Tryd.prog 5 #[.agg #[.int .i64 g.terms, .int .i64 g.nons, .int .i64 g.start, .slice A g.rules.length c], .agg #[.int .i64 h.terms, .int .i64 h.nons, .int .i64 h.start, .slice B h.rules.length d], .int .i64 x, .agg #[.int .i64 t.rule, .int .i64 t.term, .slice C t.kids.length f]] w fun e w' => e = .returned (.bool true) ∧ Below w.heap.size w w' := by
  obtain ⟨E, hE⟩ : ∃ E, E = checkI g := ⟨_, rfl⟩
  obtain ⟨P, hP⟩ : ∃ P, P = putE g h x := ⟨_, rfl⟩
  obtain ⟨⟨⟨ut, un, us, ur⟩, ue⟩, hu⟩ : ∃ r, r = revRR g := ⟨_, rfl⟩
  obtain ⟨⟨⟨vt, vn, vs, vr⟩, ve⟩, hv⟩ : ∃ r, r = putRR g h x := ⟨_, rfl⟩
  have HU := Lib.hid hu
  have HV := Lib.hid hv
  have HE := Lib.hid hE
  have HP := Lib.hid hP
  have HM := Lib.hid hMir
  have HT := Lib.hid (And.intro hr (And.intro ht hn))
  obtain ⟨cR, hcl, hcr⟩ := chain_put
  have HCR := Lib.hid (And.intro hcl hcr)
  clear hu hv hE hP hcl hcr hMir hr ht hn
  obtain ⟨gt, gn, gs, rs⟩ := g
  obtain ⟨ht, hn, hs, rs2⟩ := h
  obtain ⟨tr, tt, ks⟩ := t
  dsimp only [Tree.rule, Tree.term, Tree.kids] at *
  have KEA_0 : Hid (Els w S rs A) := Lib.hid (hA)
  have KEB_0 : Hid (Els w S rs2 B) := Lib.hid (hB)
  have KEC_0 : Hid (Els w S ks C) := Lib.hid (hC)
  have HS := Lib.hid hS
  have HI := Lib.hid (And.intro h64 h64h)
  clear hA hB hC hS h64 h64h
  obtain ⟨w_1, hww_1⟩ : ∃ w_1 : World, w_1 = ((w.alloc (.cells #[.int .i64 gt, .int .i64 gn, .int .i64 gs, .slice A rs.length c] 25)).alloc (.cells #[.int .i64 ht, .int .i64 hn, .int .i64 hs, .slice B rs2.length d] 25)).alloc (.cells #[.int .i64 tr, .int .i64 tt, .slice C ks.length f] 50) := ⟨_, rfl⟩
  have hbw_1 : Below w.heap.size w w_1 := by rw [hww_1]; exact (((Below.refl _ _).alloc (by first | exact Nat.le_refl _ | (simp; done) | (simp; omega)) _).alloc (by first | exact Nat.le_refl _ | (simp; done) | (simp; omega)) _).alloc (by first | exact Nat.le_refl _ | (simp; done) | (simp; omega)) _
  have sqw_1 : w_1.heap.size = w.heap.size + 1 + 1 + 1 := by rw [hww_1]; simp
  have KEA_1 : Hid (Els w_1 S rs A) := Lib.hid (KEA_0.out.below hbw_1)
  have KEB_1 : Hid (Els w_1 S rs2 B) := Lib.hid (KEB_0.out.below hbw_1)
  have KEC_1 : Hid (Els w_1 S ks C) := Lib.hid (KEC_0.out.below hbw_1)
  have QB_1 : Hid (Below w.heap.size w w_1) := Lib.hid (hbw_1)
  have sz_1 : w.heap.size + 1 + 1 + 1 ≤ w_1.heap.size := by rw [sqw_1]; exact Nat.le_refl _
  have KA_1 : Hid (Blk' w_1 (w.heap.size) 25 #[.int .i64 gt, .int .i64 gn, .int .i64 gs, .slice A rs.length c]) := Lib.hid (by rw [hww_1]; exact ((Blk'.new w _ _).alloc _).alloc _)
  have KB_1 : Hid (Blk' w_1 (w.heap.size + 1) 25 #[.int .i64 ht, .int .i64 hn, .int .i64 hs, .slice B rs2.length d]) := Lib.hid (by rw [hww_1]; exact (Blk'.new' (g := w.heap.size + 1) _ _ _ (by simp)).alloc _)
  have KT_1 : Hid (Blk' w_1 (w.heap.size + 1 + 1) 50 #[.int .i64 tr, .int .i64 tt, .slice C ks.length f]) := Lib.hid (by rw [hww_1]; exact Blk'.new' (g := w.heap.size + 1 + 1) _ _ _ (by simp))
  have HWw_1 := Lib.hid hww_1
  have SQw_1 := Lib.hid sqw_1
  clear hww_1 hbw_1 sqw_1
  clear KEA_0 KEB_0 KEC_0
  go_enter Tryd.func5, Tryd.ntmps5
  go_upto_region 1 with (fail)
  rw [← HWw_1.out]
  go_wp2_with fail
  refine (chain_any _).mono ?_
  rintro e w_2 ⟨As, rfl, hEs, hbz⟩
  have KEA_2 : Hid (Els w_2 S rs A) := Lib.hid (KEA_1.out.below hbz)
  have KEB_2 : Hid (Els w_2 S rs2 B) := Lib.hid (KEB_1.out.below hbz)
  have KEC_2 : Hid (Els w_2 S ks C) := Lib.hid (KEC_1.out.below hbz)
  have KA_2 : Hid (Blk' w_2 (w.heap.size) 25 #[.int .i64 gt, .int .i64 gn, .int .i64 gs, .slice A rs.length c]) := Lib.hid (KA_1.out.below hbz KA_1.out.lt)
  have KB_2 : Hid (Blk' w_2 (w.heap.size + 1) 25 #[.int .i64 ht, .int .i64 hn, .int .i64 hs, .slice B rs2.length d]) := Lib.hid (KB_1.out.below hbz KB_1.out.lt)
  have KT_2 : Hid (Blk' w_2 (w.heap.size + 1 + 1) 50 #[.int .i64 tr, .int .i64 tt, .slice C ks.length f]) := Lib.hid (KT_1.out.below hbz KT_1.out.lt)
  have QB_2 : Hid (Below w.heap.size w w_2) := Lib.hid (bthen QB_1.out hbz QB_1.out.size)
  have sz_2 : w_1.heap.size ≤ w_2.heap.size := (hbz).size
  clear hbz
  clear KEA_1 KEB_1 KEC_1 KA_1 KB_1 KT_1 QB_1
  have KC1_2 : Hid (Els w_2 (fun b => b < w_2.heap.size) chainG.rules As) := Lib.hid (hEs.keep (fun _ _ _ => rfl) (fun _ h => h.2))
  clear hEs
  go_wp2_with fail
  refine (chain_any _).mono ?_
  rintro e w_3 ⟨Bs, rfl, hEs, hbz⟩
  have KEA_3 : Hid (Els w_3 S rs A) := Lib.hid (KEA_2.out.below hbz)
  have KEB_3 : Hid (Els w_3 S rs2 B) := Lib.hid (KEB_2.out.below hbz)
  have KEC_3 : Hid (Els w_3 S ks C) := Lib.hid (KEC_2.out.below hbz)
  have KA_3 : Hid (Blk' w_3 (w.heap.size) 25 #[.int .i64 gt, .int .i64 gn, .int .i64 gs, .slice A rs.length c]) := Lib.hid (KA_2.out.below hbz KA_2.out.lt)
  have KB_3 : Hid (Blk' w_3 (w.heap.size + 1) 25 #[.int .i64 ht, .int .i64 hn, .int .i64 hs, .slice B rs2.length d]) := Lib.hid (KB_2.out.below hbz KB_2.out.lt)
  have KT_3 : Hid (Blk' w_3 (w.heap.size + 1 + 1) 50 #[.int .i64 tr, .int .i64 tt, .slice C ks.length f]) := Lib.hid (KT_2.out.below hbz KT_2.out.lt)
  have KC1_3 : Hid (Els w_3 (fun b => b < w_2.heap.size) chainG.rules As) := Lib.hid (KC1_2.out.below hbz)
  have QB_3 : Hid (Below w.heap.size w w_3) := Lib.hid (bthen QB_2.out hbz QB_2.out.size)
  have sz_3 : w_2.heap.size ≤ w_3.heap.size := (hbz).size
  clear hbz
  clear KEA_2 KEB_2 KEC_2 KA_2 KB_2 KT_2 KC1_2 QB_2
  have KC2_3 : Hid (Els w_3 (fun b => b < w_3.heap.size) chainG.rules Bs) := Lib.hid (hEs.keep (fun _ _ _ => rfl) (fun _ h => h.2))
  clear hEs
  go_wp2_with fail
  refine (putP_any chainG chainG 0 As Bs 2 2 (fun b => b < w_3.heap.size) _ (by simp [I64, chainG]) (by simp [I64, chainG]) (by decide) (by omega) (KC1_3.out.keep (fun _ _ _ => rfl) (fun b (hb : b < w_2.heap.size) => by omega)) (by decide) (by omega) KC2_3.out (fun b hb => hb)).mono ?_
  rintro e w_4 ⟨A3, c3, he, hl3, hc3, hE3, hbz⟩
  rw [HCR.out.2] at he hl3 hE3
  subst he
  dsimp only at hl3 hE3
  clear hE3
  have KEA_4 : Hid (Els w_4 S rs A) := Lib.hid (KEA_3.out.below hbz)
  have KEB_4 : Hid (Els w_4 S rs2 B) := Lib.hid (KEB_3.out.below hbz)
  have KEC_4 : Hid (Els w_4 S ks C) := Lib.hid (KEC_3.out.below hbz)
  have KA_4 : Hid (Blk' w_4 (w.heap.size) 25 #[.int .i64 gt, .int .i64 gn, .int .i64 gs, .slice A rs.length c]) := Lib.hid (KA_3.out.below hbz KA_3.out.lt)
  have KB_4 : Hid (Blk' w_4 (w.heap.size + 1) 25 #[.int .i64 ht, .int .i64 hn, .int .i64 hs, .slice B rs2.length d]) := Lib.hid (KB_3.out.below hbz KB_3.out.lt)
  have KT_4 : Hid (Blk' w_4 (w.heap.size + 1 + 1) 50 #[.int .i64 tr, .int .i64 tt, .slice C ks.length f]) := Lib.hid (KT_3.out.below hbz KT_3.out.lt)
  have KC1_4 : Hid (Els w_4 (fun b => b < w_2.heap.size) chainG.rules As) := Lib.hid (KC1_3.out.below hbz)
  have KC2_4 : Hid (Els w_4 (fun b => b < w_3.heap.size) chainG.rules Bs) := Lib.hid (KC2_3.out.below hbz)
  have QB_4 : Hid (Below w.heap.size w w_4) := Lib.hid (bthen QB_3.out hbz QB_3.out.size)
  have sz_4 : w_3.heap.size ≤ w_4.heap.size := (hbz).size
  clear hbz
  clear KEA_3 KEB_3 KEC_3 KA_3 KB_3 KT_3 KC1_3 KC2_3 QB_3
  rw [HCR.out.1] at hl3 ⊢
  obtain ⟨w_5, hww_5⟩ : ∃ w_5 : World, w_5 = w_4.alloc (.cells #[.int .i64 2, .int .i64 2, .int .i64 0, .slice A3 4 c3] 25) := ⟨_, rfl⟩
  have hbw_5 : Below w_4.heap.size w_4 w_5 := by rw [hww_5]; exact (Below.refl _ _).alloc (by first | exact Nat.le_refl _ | (simp; done) | (simp; omega)) _
  have sqw_5 : w_5.heap.size = w_4.heap.size + 1 := by rw [hww_5]; simp
  have KEA_5 : Hid (Els w_5 S rs A) := Lib.hid (KEA_4.out.below hbw_5)
  have KEB_5 : Hid (Els w_5 S rs2 B) := Lib.hid (KEB_4.out.below hbw_5)
  have KEC_5 : Hid (Els w_5 S ks C) := Lib.hid (KEC_4.out.below hbw_5)
  have KA_5 : Hid (Blk' w_5 (w.heap.size) 25 #[.int .i64 gt, .int .i64 gn, .int .i64 gs, .slice A rs.length c]) := Lib.hid (KA_4.out.below hbw_5 KA_4.out.lt)
  have KB_5 : Hid (Blk' w_5 (w.heap.size + 1) 25 #[.int .i64 ht, .int .i64 hn, .int .i64 hs, .slice B rs2.length d]) := Lib.hid (KB_4.out.below hbw_5 KB_4.out.lt)
  have KT_5 : Hid (Blk' w_5 (w.heap.size + 1 + 1) 50 #[.int .i64 tr, .int .i64 tt, .slice C ks.length f]) := Lib.hid (KT_4.out.below hbw_5 KT_4.out.lt)
  have QB_5 : Hid (Below w.heap.size w w_5) := Lib.hid (bthen QB_4.out hbw_5 QB_4.out.size)
  have sz_5 : w_4.heap.size + 1 ≤ w_5.heap.size := by rw [sqw_5]; exact Nat.le_refl _
  have KX0_5 : Hid (Blk' w_5 (w_4.heap.size) 25 #[.int .i64 2, .int .i64 2, .int .i64 0, .slice A3 4 c3]) := Lib.hid (by rw [hww_5]; exact Blk'.new w_4 _ _)
  have HWw_5 := Lib.hid hww_5
  have SQw_5 := Lib.hid sqw_5
  clear hww_5 hbw_5 sqw_5
  clear KEA_4 KEB_4 KEC_4 KA_4 KB_4 KT_4 QB_4
  go_upto_region 2 with (fail)
  rw [← HWw_5.out]
  have cX0_5_0 : w_5.cell? ⟨w_4.heap.size, 0, none⟩ = some (.int .i64 2) := KX0_5.out.cell 0
  have cX0_5_1 : w_5.cell? ⟨w_4.heap.size, 1, none⟩ = some (.int .i64 2) := KX0_5.out.cell 1
  have cX0_5_2 : w_5.cell? ⟨w_4.heap.size, 2, none⟩ = some (.int .i64 0) := KX0_5.out.cell 2
  have cX0_5_3 : w_5.cell? ⟨w_4.heap.size, 3, none⟩ = some (.slice A3 4 c3) := KX0_5.out.cell 3
  have zX0_5 : w_4.heap.size < w_5.heap.size := KX0_5.out.lt
  go_upto_region 4 with (fail)
  clear cX0_5_0 cX0_5_1 cX0_5_2 cX0_5_3 zX0_5
  have cA_5_0 : w_5.cell? ⟨w.heap.size, 0, none⟩ = some (.int .i64 gt) := KA_5.out.cell 0
  have cA_5_1 : w_5.cell? ⟨w.heap.size, 1, none⟩ = some (.int .i64 gn) := KA_5.out.cell 1
  have cA_5_2 : w_5.cell? ⟨w.heap.size, 2, none⟩ = some (.int .i64 gs) := KA_5.out.cell 2
  have cA_5_3 : w_5.cell? ⟨w.heap.size, 3, none⟩ = some (.slice A rs.length c) := KA_5.out.cell 3
  have zA_5 : w.heap.size < w_5.heap.size := KA_5.out.lt
  have cB_5_0 : w_5.cell? ⟨w.heap.size + 1, 0, none⟩ = some (.int .i64 ht) := KB_5.out.cell 0
  have cB_5_1 : w_5.cell? ⟨w.heap.size + 1, 1, none⟩ = some (.int .i64 hn) := KB_5.out.cell 1
  have cB_5_2 : w_5.cell? ⟨w.heap.size + 1, 2, none⟩ = some (.int .i64 hs) := KB_5.out.cell 2
  have cB_5_3 : w_5.cell? ⟨w.heap.size + 1, 3, none⟩ = some (.slice B rs2.length d) := KB_5.out.cell 3
  have zB_5 : w.heap.size + 1 < w_5.heap.size := KB_5.out.lt
  go_wp2_with fail
  refine (reverseP_any ⟨gt, gn, gs, rs⟩ A c S _ HI.out.1 hlc hc KEA_5.out (fun b hb => by have := HS.out b hb; omega)).mono ?_
  rintro e w_6 ⟨AU, cU, heU, hlU, hcU, hEU, hbz⟩
  rw [← HU.out] at heU hlU hEU
  subst heU
  dsimp only at hlU hEU
  clear cA_5_0 cA_5_1 cA_5_2 cA_5_3 zA_5 cB_5_0 cB_5_1 cB_5_2 cB_5_3 zB_5
  have KEA_6 : Hid (Els w_6 S rs A) := Lib.hid (KEA_5.out.below hbz)
  have KEB_6 : Hid (Els w_6 S rs2 B) := Lib.hid (KEB_5.out.below hbz)
  have KEC_6 : Hid (Els w_6 S ks C) := Lib.hid (KEC_5.out.below hbz)
  have KA_6 : Hid (Blk' w_6 (w.heap.size) 25 #[.int .i64 gt, .int .i64 gn, .int .i64 gs, .slice A rs.length c]) := Lib.hid (KA_5.out.below hbz KA_5.out.lt)
  have KB_6 : Hid (Blk' w_6 (w.heap.size + 1) 25 #[.int .i64 ht, .int .i64 hn, .int .i64 hs, .slice B rs2.length d]) := Lib.hid (KB_5.out.below hbz KB_5.out.lt)
  have KT_6 : Hid (Blk' w_6 (w.heap.size + 1 + 1) 50 #[.int .i64 tr, .int .i64 tt, .slice C ks.length f]) := Lib.hid (KT_5.out.below hbz KT_5.out.lt)
  have QB_6 : Hid (Below w.heap.size w w_6) := Lib.hid (bthen QB_5.out hbz QB_5.out.size)
  have sz_6 : w_5.heap.size ≤ w_6.heap.size := (hbz).size
  clear hbz
  clear KEA_5 KEB_5 KEC_5 KA_5 KB_5 KT_5 QB_5
  have KEU_6 : Hid (Els w_6 (fun b => b < w_6.heap.size) ur AU) := Lib.hid (hEU.keep (fun _ _ _ => rfl) (fun _ h => h.2))
  clear hEU
  try dsimp only
  obtain ⟨w_7, hww_7⟩ : ∃ w_7 : World, w_7 = w_6.alloc (.cells #[.int .i64 ut, .int .i64 un, .int .i64 us, .slice AU ur.length cU] 25) := ⟨_, rfl⟩
  have hbw_7 : Below w_6.heap.size w_6 w_7 := by rw [hww_7]; exact (Below.refl _ _).alloc (by first | exact Nat.le_refl _ | (simp; done) | (simp; omega)) _
  have sqw_7 : w_7.heap.size = w_6.heap.size + 1 := by rw [hww_7]; simp
  have KEA_7 : Hid (Els w_7 S rs A) := Lib.hid (KEA_6.out.below hbw_7)
  have KEB_7 : Hid (Els w_7 S rs2 B) := Lib.hid (KEB_6.out.below hbw_7)
  have KEC_7 : Hid (Els w_7 S ks C) := Lib.hid (KEC_6.out.below hbw_7)
  have KA_7 : Hid (Blk' w_7 (w.heap.size) 25 #[.int .i64 gt, .int .i64 gn, .int .i64 gs, .slice A rs.length c]) := Lib.hid (KA_6.out.below hbw_7 KA_6.out.lt)
  have KB_7 : Hid (Blk' w_7 (w.heap.size + 1) 25 #[.int .i64 ht, .int .i64 hn, .int .i64 hs, .slice B rs2.length d]) := Lib.hid (KB_6.out.below hbw_7 KB_6.out.lt)
  have KT_7 : Hid (Blk' w_7 (w.heap.size + 1 + 1) 50 #[.int .i64 tr, .int .i64 tt, .slice C ks.length f]) := Lib.hid (KT_6.out.below hbw_7 KT_6.out.lt)
  have KEU_7 : Hid (Els w_7 (fun b => b < w_6.heap.size) ur AU) := Lib.hid (KEU_6.out.below hbw_7)
  have QB_7 : Hid (Below w.heap.size w w_7) := Lib.hid (bthen QB_6.out hbw_7 QB_6.out.size)
  have sz_7 : w_6.heap.size + 1 ≤ w_7.heap.size := by rw [sqw_7]; exact Nat.le_refl _
  have KU_7 : Hid (Blk' w_7 (w_6.heap.size) 25 #[.int .i64 ut, .int .i64 un, .int .i64 us, .slice AU ur.length cU]) := Lib.hid (by rw [hww_7]; exact Blk'.new w_6 _ _)
  have HWw_7 := Lib.hid hww_7
  have SQw_7 := Lib.hid sqw_7
  clear hww_7 hbw_7 sqw_7
  clear KEA_6 KEB_6 KEC_6 KA_6 KB_6 KT_6 KEU_6 QB_6
  go_upto_region 5 with (fail)
  rw [← HWw_7.out]
  have cA_7_0 : w_7.cell? ⟨w.heap.size, 0, none⟩ = some (.int .i64 gt) := KA_7.out.cell 0
  have cA_7_1 : w_7.cell? ⟨w.heap.size, 1, none⟩ = some (.int .i64 gn) := KA_7.out.cell 1
  have cA_7_2 : w_7.cell? ⟨w.heap.size, 2, none⟩ = some (.int .i64 gs) := KA_7.out.cell 2
  have cA_7_3 : w_7.cell? ⟨w.heap.size, 3, none⟩ = some (.slice A rs.length c) := KA_7.out.cell 3
  have zA_7 : w.heap.size < w_7.heap.size := KA_7.out.lt
  have cB_7_0 : w_7.cell? ⟨w.heap.size + 1, 0, none⟩ = some (.int .i64 ht) := KB_7.out.cell 0
  have cB_7_1 : w_7.cell? ⟨w.heap.size + 1, 1, none⟩ = some (.int .i64 hn) := KB_7.out.cell 1
  have cB_7_2 : w_7.cell? ⟨w.heap.size + 1, 2, none⟩ = some (.int .i64 hs) := KB_7.out.cell 2
  have cB_7_3 : w_7.cell? ⟨w.heap.size + 1, 3, none⟩ = some (.slice B rs2.length d) := KB_7.out.cell 3
  have zB_7 : w.heap.size + 1 < w_7.heap.size := KB_7.out.lt
  go_wp2_with fail
  refine (putP_any ⟨gt, gn, gs, rs⟩ ⟨ht, hn, hs, rs2⟩ x A B c d S _ HI.out.1 HI.out.2 hlc hc KEA_7.out hld hd KEB_7.out (fun b hb => by have := HS.out b hb; omega)).mono ?_
  rintro e w_8 ⟨AV, cV, heV, hlV, hcV, hEV, hbz⟩
  rw [← HV.out] at heV hlV hEV
  subst heV
  dsimp only at hlV hEV
  clear cA_7_0 cA_7_1 cA_7_2 cA_7_3 zA_7 cB_7_0 cB_7_1 cB_7_2 cB_7_3 zB_7
  have KEA_8 : Hid (Els w_8 S rs A) := Lib.hid (KEA_7.out.below hbz)
  have KEB_8 : Hid (Els w_8 S rs2 B) := Lib.hid (KEB_7.out.below hbz)
  have KEC_8 : Hid (Els w_8 S ks C) := Lib.hid (KEC_7.out.below hbz)
  have KA_8 : Hid (Blk' w_8 (w.heap.size) 25 #[.int .i64 gt, .int .i64 gn, .int .i64 gs, .slice A rs.length c]) := Lib.hid (KA_7.out.below hbz KA_7.out.lt)
  have KB_8 : Hid (Blk' w_8 (w.heap.size + 1) 25 #[.int .i64 ht, .int .i64 hn, .int .i64 hs, .slice B rs2.length d]) := Lib.hid (KB_7.out.below hbz KB_7.out.lt)
  have KT_8 : Hid (Blk' w_8 (w.heap.size + 1 + 1) 50 #[.int .i64 tr, .int .i64 tt, .slice C ks.length f]) := Lib.hid (KT_7.out.below hbz KT_7.out.lt)
  have KEU_8 : Hid (Els w_8 (fun b => b < w_6.heap.size) ur AU) := Lib.hid (KEU_7.out.below hbz)
  have KU_8 : Hid (Blk' w_8 (w_6.heap.size) 25 #[.int .i64 ut, .int .i64 un, .int .i64 us, .slice AU ur.length cU]) := Lib.hid (KU_7.out.below hbz KU_7.out.lt)
  have QB_8 : Hid (Below w.heap.size w w_8) := Lib.hid (bthen QB_7.out hbz QB_7.out.size)
  have sz_8 : w_7.heap.size ≤ w_8.heap.size := (hbz).size
  clear hbz
  clear KEA_7 KEB_7 KEC_7 KA_7 KB_7 KT_7 KEU_7 KU_7 QB_7
  have KEV_8 : Hid (Els w_8 (fun b => b < w_8.heap.size) vr AV) := Lib.hid (hEV.keep (fun _ _ _ => rfl) (fun _ h => h.2))
  clear hEV
  try dsimp only
  obtain ⟨w_9, hww_9⟩ : ∃ w_9 : World, w_9 = w_8.alloc (.cells #[.int .i64 vt, .int .i64 vn, .int .i64 vs, .slice AV vr.length cV] 25) := ⟨_, rfl⟩
  have hbw_9 : Below w_8.heap.size w_8 w_9 := by rw [hww_9]; exact (Below.refl _ _).alloc (by first | exact Nat.le_refl _ | (simp; done) | (simp; omega)) _
  have sqw_9 : w_9.heap.size = w_8.heap.size + 1 := by rw [hww_9]; simp
  have KEA_9 : Hid (Els w_9 S rs A) := Lib.hid (KEA_8.out.below hbw_9)
  have KEB_9 : Hid (Els w_9 S rs2 B) := Lib.hid (KEB_8.out.below hbw_9)
  have KEC_9 : Hid (Els w_9 S ks C) := Lib.hid (KEC_8.out.below hbw_9)
  have KA_9 : Hid (Blk' w_9 (w.heap.size) 25 #[.int .i64 gt, .int .i64 gn, .int .i64 gs, .slice A rs.length c]) := Lib.hid (KA_8.out.below hbw_9 KA_8.out.lt)
  have KB_9 : Hid (Blk' w_9 (w.heap.size + 1) 25 #[.int .i64 ht, .int .i64 hn, .int .i64 hs, .slice B rs2.length d]) := Lib.hid (KB_8.out.below hbw_9 KB_8.out.lt)
  have KT_9 : Hid (Blk' w_9 (w.heap.size + 1 + 1) 50 #[.int .i64 tr, .int .i64 tt, .slice C ks.length f]) := Lib.hid (KT_8.out.below hbw_9 KT_8.out.lt)
  have KEU_9 : Hid (Els w_9 (fun b => b < w_6.heap.size) ur AU) := Lib.hid (KEU_8.out.below hbw_9)
  have KU_9 : Hid (Blk' w_9 (w_6.heap.size) 25 #[.int .i64 ut, .int .i64 un, .int .i64 us, .slice AU ur.length cU]) := Lib.hid (KU_8.out.below hbw_9 KU_8.out.lt)
  have KEV_9 : Hid (Els w_9 (fun b => b < w_8.heap.size) vr AV) := Lib.hid (KEV_8.out.below hbw_9)
  have QB_9 : Hid (Below w.heap.size w w_9) := Lib.hid (bthen QB_8.out hbw_9 QB_8.out.size)
  have sz_9 : w_8.heap.size + 1 ≤ w_9.heap.size := by rw [sqw_9]; exact Nat.le_refl _
  have KV_9 : Hid (Blk' w_9 (w_8.heap.size) 25 #[.int .i64 vt, .int .i64 vn, .int .i64 vs, .slice AV vr.length cV]) := Lib.hid (by rw [hww_9]; exact Blk'.new w_8 _ _)
  have HWw_9 := Lib.hid hww_9
  have SQw_9 := Lib.hid sqw_9
  clear hww_9 hbw_9 sqw_9
  clear KEA_8 KEB_8 KEC_8 KA_8 KB_8 KT_8 KEU_8 KU_8 KEV_8 QB_8
  go_upto_region 6 with (fail)
  rw [← HWw_9.out]
  have cT_9_0 : w_9.cell? ⟨w.heap.size + 1 + 1, 0, none⟩ = some (.int .i64 tr) := KT_9.out.cell 0
  have cT_9_1 : w_9.cell? ⟨w.heap.size + 1 + 1, 1, none⟩ = some (.int .i64 tt) := KT_9.out.cell 1
  have cT_9_2 : w_9.cell? ⟨w.heap.size + 1 + 1, 2, none⟩ = some (.slice C ks.length f) := KT_9.out.cell 2
  have zT_9 : w.heap.size + 1 + 1 < w_9.heap.size := KT_9.out.lt
  go_cut [51] (fun v wx => v = .bool false ∧ Below w_9.heap.size w_9 wx)
  case first =>
    go_region_held3 (fun w' => w'.cell? ⟨w.heap.size + 1 + 1, 0, none⟩ = some (.int .i64 tr) ∧ w'.cell? ⟨w.heap.size + 1 + 1, 1, none⟩ = some (.int .i64 tt) ∧ w'.cell? ⟨w.heap.size + 1 + 1, 2, none⟩ = some (.slice C ks.length f)) (go_keep)
      (first
      | (go_at_call 23
         first
         | (have _t := tokR
            clear _t
            refine (HM.out S ⟨tr, tt, ks⟩ C f _ HT.out.1 HT.out.2.1 HT.out.2.2 hlf hf (fun b hb => by have h1 := HS.out b hb; have h2 := BR.out.size; omega) (KEC_9.out.below BR.out)).mono ?_
            rintro e wM ⟨AM, dM, rfl, q1, q2, q3, q4, q5, hbM⟩
            have BM : Hid (Below w_9.heap.size w_9 wM) := Lib.hid (bthen BR.out hbM BR.out.size)
            have LM := Lib.hid (And.intro q3 (And.intro q4 q5))
            have XR := Lib.hid (LR.out.2.2.below hbM)
            have XM := Lib.hid q5
            have BL := Lib.hid BM.out
            have y0 := (BM.out.cell (p := ⟨w.heap.size + 1 + 1, 0, none⟩) zT_9).trans cT_9_0
            have y1 := (BM.out.cell (p := ⟨w.heap.size + 1 + 1, 1, none⟩) zT_9).trans cT_9_1
            have y2 := (BM.out.cell (p := ⟨w.heap.size + 1 + 1, 2, none⟩) zT_9).trans cT_9_2
            clear q1 q2 q3 q4 q5 hbM)
         | (refine (HM.out S ⟨tr, tt, ks⟩ C f _ HT.out.1 HT.out.2.1 HT.out.2.2 hlf hf (fun b hb => by have h1 := HS.out b hb; show b < w_9.heap.size; omega) (KEC_9.out.below (Below.refl _ _).drew)).mono ?_
            rintro e wM ⟨AM, dM, rfl, q1, q2, q3, q4, q5, hbM⟩
            have BM : Hid (Below w_9.heap.size w_9 wM) := Lib.hid (bundrew hbM)
            have LM := Lib.hid (And.intro q3 (And.intro q4 q5))
            have tokM : True := trivial
            have x0 := (BM.out.cell (p := ⟨w.heap.size + 1 + 1, 0, none⟩) zT_9).trans cT_9_0
            have x1 := (BM.out.cell (p := ⟨w.heap.size + 1 + 1, 1, none⟩) zT_9).trans cT_9_1
            have x2 := (BM.out.cell (p := ⟨w.heap.size + 1 + 1, 2, none⟩) zT_9).trans cT_9_2
            clear q1 q2 q3 q4 q5 hbM))
      | (go_at_call 24
         first
         | (have _t := tokM
            clear _t
            refine (mirrored_any S ⟨tr, tt, ks⟩ C f _ HT.out.1 HT.out.2.1 HT.out.2.2 hlf hf (KEC_9.out.below BM.out)).mono ?_
            rintro e wR ⟨AR, dR, rfl, q1, q2, q3, q4, q5, hbR⟩
            have BR : Hid (Below w_9.heap.size w_9 wR) := Lib.hid (bthen BM.out hbR BM.out.size)
            have LR := Lib.hid (And.intro q3 (And.intro q4 q5))
            have XM := Lib.hid (LM.out.2.2.below hbR)
            have XR := Lib.hid q5
            have BL := Lib.hid BR.out
            have y0 := (BR.out.cell (p := ⟨w.heap.size + 1 + 1, 0, none⟩) zT_9).trans cT_9_0
            have y1 := (BR.out.cell (p := ⟨w.heap.size + 1 + 1, 1, none⟩) zT_9).trans cT_9_1
            have y2 := (BR.out.cell (p := ⟨w.heap.size + 1 + 1, 2, none⟩) zT_9).trans cT_9_2
            clear q1 q2 q3 q4 q5 hbR)
         | (refine (mirrored_any S ⟨tr, tt, ks⟩ C f _ HT.out.1 HT.out.2.1 HT.out.2.2 hlf hf (KEC_9.out.below (Below.refl _ _).drew)).mono ?_
            rintro e wR ⟨AR, dR, rfl, q1, q2, q3, q4, q5, hbR⟩
            have BR : Hid (Below w_9.heap.size w_9 wR) := Lib.hid (bundrew hbR)
            have LR := Lib.hid (And.intro q3 (And.intro q4 q5))
            have tokR : True := trivial
            have x0 := (BR.out.cell (p := ⟨w.heap.size + 1 + 1, 0, none⟩) zT_9).trans cT_9_0
            have x1 := (BR.out.cell (p := ⟨w.heap.size + 1 + 1, 1, none⟩) zT_9).trans cT_9_1
            have x2 := (BR.out.cell (p := ⟨w.heap.size + 1 + 1, 2, none⟩) zT_9).trans cT_9_2
            clear q1 q2 q3 q4 q5 hbR))
      | (go_at_call 22
         refine (sameTree_any _ _ (mirT ⟨tr, tt, ks⟩) (mirT ⟨tr, tt, ks⟩) AM AR dM dR _ ⟨LM.out.1, LM.out.2.1⟩ ⟨LR.out.1, LR.out.2.1⟩ XM.out XR.out).mono ?_
         rintro e w7 ⟨rfl, hb7⟩
         obtain ⟨tq, htq⟩ : ∃ tq, tq = decide (mirT ⟨tr, tt, ks⟩ = mirT ⟨tr, tt, ks⟩) := ⟨_, rfl⟩
         rw [← htq]
         have htq2 : tq = true := by rw [htq]; simp
         subst htq2
         have B7 := Lib.hid (bthen BL.out hb7 BL.out.size)
         have v0 := (B7.out.cell (p := ⟨w.heap.size + 1 + 1, 0, none⟩) zT_9).trans cT_9_0
         have v1 := (B7.out.cell (p := ⟨w.heap.size + 1 + 1, 1, none⟩) zT_9).trans cT_9_1
         have v2 := (B7.out.cell (p := ⟨w.heap.size + 1 + 1, 2, none⟩) zT_9).trans cT_9_2
         clear hb7 htq))
    all_goals
      go_wp2_with fail
      go_meet
      exact ⟨rfl, by first | exact B7.out | exact B7.out.drew⟩
  case rest =>
    obtain ⟨rfl, hbz⟩ := hcut
    have KEA_10 : Hid (Els wc S rs A) := Lib.hid (KEA_9.out.below hbz)
    have KEB_10 : Hid (Els wc S rs2 B) := Lib.hid (KEB_9.out.below hbz)
    have KEC_10 : Hid (Els wc S ks C) := Lib.hid (KEC_9.out.below hbz)
    have KA_10 : Hid (Blk' wc (w.heap.size) 25 #[.int .i64 gt, .int .i64 gn, .int .i64 gs, .slice A rs.length c]) := Lib.hid (KA_9.out.below hbz KA_9.out.lt)
    have KB_10 : Hid (Blk' wc (w.heap.size + 1) 25 #[.int .i64 ht, .int .i64 hn, .int .i64 hs, .slice B rs2.length d]) := Lib.hid (KB_9.out.below hbz KB_9.out.lt)
    have KT_10 : Hid (Blk' wc (w.heap.size + 1 + 1) 50 #[.int .i64 tr, .int .i64 tt, .slice C ks.length f]) := Lib.hid (KT_9.out.below hbz KT_9.out.lt)
    have KEU_10 : Hid (Els wc (fun b => b < w_6.heap.size) ur AU) := Lib.hid (KEU_9.out.below hbz)
    have KU_10 : Hid (Blk' wc (w_6.heap.size) 25 #[.int .i64 ut, .int .i64 un, .int .i64 us, .slice AU ur.length cU]) := Lib.hid (KU_9.out.below hbz KU_9.out.lt)
    have KEV_10 : Hid (Els wc (fun b => b < w_8.heap.size) vr AV) := Lib.hid (KEV_9.out.below hbz)
    have KV_10 : Hid (Blk' wc (w_8.heap.size) 25 #[.int .i64 vt, .int .i64 vn, .int .i64 vs, .slice AV vr.length cV]) := Lib.hid (KV_9.out.below hbz KV_9.out.lt)
    have QB_10 : Hid (Below w.heap.size w wc) := Lib.hid (bthen QB_9.out hbz QB_9.out.size)
    have sz_10 : w_9.heap.size ≤ wc.heap.size := (hbz).size
    clear hbz
    clear KEA_9 KEB_9 KEC_9 KA_9 KB_9 KT_9 KEU_9 KU_9 KEV_9 KV_9 QB_9
    have cA_10_0 : wc.cell? ⟨w.heap.size, 0, none⟩ = some (.int .i64 gt) := KA_10.out.cell 0
    have cA_10_1 : wc.cell? ⟨w.heap.size, 1, none⟩ = some (.int .i64 gn) := KA_10.out.cell 1
    have cA_10_2 : wc.cell? ⟨w.heap.size, 2, none⟩ = some (.int .i64 gs) := KA_10.out.cell 2
    have cA_10_3 : wc.cell? ⟨w.heap.size, 3, none⟩ = some (.slice A rs.length c) := KA_10.out.cell 3
    have zA_10 : w.heap.size < wc.heap.size := KA_10.out.lt
    go_wp2_with fail
    refine (gramErr_any ⟨gt, gn, gs, rs⟩ A c S _ HI.out.1 hlc hc KEA_10.out (fun b hb => by have := HS.out b hb; omega)).mono ?_
    rintro e w_11 ⟨rfl, hbz⟩
    clear cA_10_0 cA_10_1 cA_10_2 cA_10_3 zA_10
    have KEA_11 : Hid (Els w_11 S rs A) := Lib.hid (KEA_10.out.below hbz)
    have KEB_11 : Hid (Els w_11 S rs2 B) := Lib.hid (KEB_10.out.below hbz)
    have KA_11 : Hid (Blk' w_11 (w.heap.size) 25 #[.int .i64 gt, .int .i64 gn, .int .i64 gs, .slice A rs.length c]) := Lib.hid (KA_10.out.below hbz KA_10.out.lt)
    have KB_11 : Hid (Blk' w_11 (w.heap.size + 1) 25 #[.int .i64 ht, .int .i64 hn, .int .i64 hs, .slice B rs2.length d]) := Lib.hid (KB_10.out.below hbz KB_10.out.lt)
    have KEU_11 : Hid (Els w_11 (fun b => b < w_6.heap.size) ur AU) := Lib.hid (KEU_10.out.below hbz)
    have KU_11 : Hid (Blk' w_11 (w_6.heap.size) 25 #[.int .i64 ut, .int .i64 un, .int .i64 us, .slice AU ur.length cU]) := Lib.hid (KU_10.out.below hbz KU_10.out.lt)
    have KEV_11 : Hid (Els w_11 (fun b => b < w_8.heap.size) vr AV) := Lib.hid (KEV_10.out.below hbz)
    have KV_11 : Hid (Blk' w_11 (w_8.heap.size) 25 #[.int .i64 vt, .int .i64 vn, .int .i64 vs, .slice AV vr.length cV]) := Lib.hid (KV_10.out.below hbz KV_10.out.lt)
    have QB_11 : Hid (Below w.heap.size w w_11) := Lib.hid (bthen QB_10.out hbz QB_10.out.size)
    have sz_11 : wc.heap.size ≤ w_11.heap.size := (hbz).size
    clear hbz
    clear KEA_10 KEB_10 KA_10 KB_10 KEU_10 KU_10 KEV_10 KV_10 QB_10
    rw [← HE.out]
    by_cases hE0 : E = 0
    · subst hE0
      have hvg := validG_of HE.out.symm
      have hrr0 : ∀ q ∈ rs, q.right.length ≤ 4 := fun q hq => (hvg.rules q hq).2.2.1
      have hrl32 : rs.length ≤ 32 := hvg.len
      have HVg := Lib.hid hvg
      have HRr := Lib.hid hrr0
      clear hvg hrr0
      have hub := HU.out
      rw [show revRR (⟨gt, gn, gs, rs⟩ : Gram) = (revG ⟨gt, gn, gs, rs⟩, 0) by unfold revRR; rw [if_pos HE.out.symm]] at hub
      injection hub with hub1 hub2
      injection hub1 with h1 h2 h3 h4
      have h1 := h1.symm
      have h2 := h2.symm
      have h3 := h3.symm
      subst h1; subst h2; subst h3; subst hub2
      have HUr := Lib.hid h4
      clear h4
      have cA_11_0 : w_11.cell? ⟨w.heap.size, 0, none⟩ = some (.int .i64 gt) := KA_11.out.cell 0
      have cA_11_1 : w_11.cell? ⟨w.heap.size, 1, none⟩ = some (.int .i64 gn) := KA_11.out.cell 1
      have cA_11_2 : w_11.cell? ⟨w.heap.size, 2, none⟩ = some (.int .i64 gs) := KA_11.out.cell 2
      have cA_11_3 : w_11.cell? ⟨w.heap.size, 3, none⟩ = some (.slice A rs.length c) := KA_11.out.cell 3
      have zA_11 : w.heap.size < w_11.heap.size := KA_11.out.lt
      obtain ⟨w_12, hww_12⟩ : ∃ w_12 : World, w_12 = w_11.alloc (.cells #[.int .i64 gt, .int .i64 gn, .int .i64 gs, .slice none 0 0] 25) := ⟨_, rfl⟩
      have hbw_12 : Below w_11.heap.size w_11 w_12 := by rw [hww_12]; exact (Below.refl _ _).alloc (by first | exact Nat.le_refl _ | (simp; done) | (simp; omega)) _
      have sqw_12 : w_12.heap.size = w_11.heap.size + 1 := by rw [hww_12]; simp
      have KEA_12 : Hid (Els w_12 S rs A) := Lib.hid (KEA_11.out.below hbw_12)
      have KEB_12 : Hid (Els w_12 S rs2 B) := Lib.hid (KEB_11.out.below hbw_12)
      have KA_12 : Hid (Blk' w_12 (w.heap.size) 25 #[.int .i64 gt, .int .i64 gn, .int .i64 gs, .slice A rs.length c]) := Lib.hid (KA_11.out.below hbw_12 KA_11.out.lt)
      have KB_12 : Hid (Blk' w_12 (w.heap.size + 1) 25 #[.int .i64 ht, .int .i64 hn, .int .i64 hs, .slice B rs2.length d]) := Lib.hid (KB_11.out.below hbw_12 KB_11.out.lt)
      have KEU_12 : Hid (Els w_12 (fun b => b < w_6.heap.size) ur AU) := Lib.hid (KEU_11.out.below hbw_12)
      have KU_12 : Hid (Blk' w_12 (w_6.heap.size) 25 #[.int .i64 gt, .int .i64 gn, .int .i64 gs, .slice AU ur.length cU]) := Lib.hid (KU_11.out.below hbw_12 KU_11.out.lt)
      have KEV_12 : Hid (Els w_12 (fun b => b < w_8.heap.size) vr AV) := Lib.hid (KEV_11.out.below hbw_12)
      have KV_12 : Hid (Blk' w_12 (w_8.heap.size) 25 #[.int .i64 vt, .int .i64 vn, .int .i64 vs, .slice AV vr.length cV]) := Lib.hid (KV_11.out.below hbw_12 KV_11.out.lt)
      have QB_12 : Hid (Below w.heap.size w w_12) := Lib.hid (bthen QB_11.out hbw_12 QB_11.out.size)
      have sz_12 : w_11.heap.size + 1 ≤ w_12.heap.size := by rw [sqw_12]; exact Nat.le_refl _
      have KZ_12 : Hid (Blk' w_12 (w_11.heap.size) 25 #[.int .i64 gt, .int .i64 gn, .int .i64 gs, .slice none 0 0]) := Lib.hid (by rw [hww_12]; exact Blk'.new w_11 _ _)
      have HWw_12 := Lib.hid hww_12
      have SQw_12 := Lib.hid sqw_12
      clear hww_12 hbw_12 sqw_12
      clear KEA_11 KEB_11 KA_11 KB_11 KEU_11 KU_11 KEV_11 KV_11 QB_11
      go_upto_region 12 with (fail)
      rw [← HWw_12.out]
      clear cA_11_0 cA_11_1 cA_11_2 cA_11_3 zA_11
      have cA_12_0 : w_12.cell? ⟨w.heap.size, 0, none⟩ = some (.int .i64 gt) := KA_12.out.cell 0
      have cA_12_1 : w_12.cell? ⟨w.heap.size, 1, none⟩ = some (.int .i64 gn) := KA_12.out.cell 1
      have cA_12_2 : w_12.cell? ⟨w.heap.size, 2, none⟩ = some (.int .i64 gs) := KA_12.out.cell 2
      have cA_12_3 : w_12.cell? ⟨w.heap.size, 3, none⟩ = some (.slice A rs.length c) := KA_12.out.cell 3
      have zA_12 : w.heap.size < w_12.heap.size := KA_12.out.lt
      go_wp2_with fail
      clear cA_12_0 cA_12_1 cA_12_2 cA_12_3 zA_12
      obtain ⟨Z, hZ⟩ : ∃ Z, Z = w_11.heap.size := ⟨_, rfl⟩
      have HZ := Lib.hid hZ
      have hZ1 : Z < w_12.heap.size := by rw [hZ]; exact KZ_12.out.lt
      rw [← hZ]
      have HZb := KZ_12
      rw [← hZ] at HZb
      clear hZ
      go_loopw [84] (fun i wr => WantL gt gn gs rs Z w_12 i wr) (fun i _ => rs.length - (intOf i).toNat)
      case atStart => exact ⟨0, _, Nat.zero_le _, rfl, Own.nil _ _ _ _, HZb.out, Kept.refl _ _⟩
      case round =>
        obtain ⟨wo, hwo⟩ : ∃ wo : World, wo = wr := ⟨_, rfl⟩
        subst hwo
        obtain ⟨m, v, hm, rfl, hown, hZb, hk⟩ := hrel
        have HOw := Lib.hid hown
        have HZo := Lib.hid hZb
        have HKo := Lib.hid hk
        have zo : w_12.heap.size ≤ wo.heap.size := hk.size
        clear hown hZb hk
        by_cases hlt : m < rs.length
        · obtain ⟨q, hq⟩ := get_some (xs := rs) (k := m) hlt
          have hZ0 : w.heap.size ≤ Z := by rw [HZ.out]; omega
          obtain ⟨bq, oq, Aq, cq, eA, hSb, hbs, hqi, hrc, hcr, hEr, hc0, hc1⟩ := (KEA_12.out.kept HKo.out (fun b hb (e : b = Z) => by have := HS.out b hb; omega)).rule hq
          subst eA
          have hq4 := HRr.out q (List.mem_of_getElem? hq)
          have HTk := Lib.hid (take_snoc hq)
          obtain ⟨ql, qr⟩ := q
          dsimp only at hqi hrc hcr hEr hc0 hc1 hq4
          have hm0 : (0 : Int) ≤ (m : Int) := by omega
          have hm1 : (m : Int) < (rs.length : Int) := by omega
          obtain ⟨w5, hw5⟩ : ∃ w5 : World, w5 = wo.alloc (.cells #[.int .i64 ql, .slice Aq qr.length cq] 61) := ⟨_, rfl⟩
          have HW5 := Lib.hid hw5
          have hb5 : Below wo.heap.size wo w5 := by rw [hw5]; exact (Below.refl _ _).alloc (Nat.le_refl _) _
          have HX5 : Hid (Blk' w5 wo.heap.size 61 #[.int .i64 ql, .slice Aq qr.length cq]) := Lib.hid (by rw [hw5]; exact Blk'.new wo _ _)
          have HE5 := Lib.hid (hEr.below hb5)
          have HB5 := Lib.hid hb5
          have HQ := Lib.hid (And.intro hqi (And.intro hrc hcr))
          have x0 : w5.cell? ⟨wo.heap.size, 0, none⟩ = some (.int .i64 ql) := HX5.out.cell 0
          have x1 : w5.cell? ⟨wo.heap.size, 1, none⟩ = some (.slice Aq qr.length cq) := HX5.out.cell 1
          have zX : wo.heap.size < w5.heap.size := HX5.out.lt
          clear hq hSb hqi hrc hcr hEr hw5 hb5
          go_upto_region 15 with (fail)
          rw [← HW5.out]
          clear hc0 hc1
          go_wp2_with fail
          refine (cloneSymO_any qr Aq cq _ S _ rfl (by omega) HE5.out (fun b hb => by have := HS.out b hb; omega)).mono ?_
          rintro e w6 ⟨A6, c6, rfl, h61, h62, hown6, hb6⟩
          have hrev : Calls Tryd.prog 28 #[.slice A6 qr.length c6] w6 (fun e w7 => e = .returned (.tuple #[]) ∧ Els w7 (fun b => w5.heap.size ≤ b ∧ b < w7.heap.size) qr.reverse A6 ∧ Kept (fun b => w5.heap.size ≤ b) w6 w7) := by
            by_cases hne : qr = []
            · subst hne
              exact (revNil_any A6 c6 w6).mono fun e w7 h => ⟨h.1, fun h => absurd rfl h, Kept.of_below _ h.2⟩
            · obtain ⟨kb, o6, eA6, hkb, _⟩ := hown6.symEls hne
              subst eA6
              obtain ⟨tb, cb, hBk⟩ := hown6.blk hkb
              have hkb2 := hown6.block kb hkb
              refine (revSym_any qr kb o6 c6 w6 (by omega) (RowS.of hown6.symEls hBk)).mono fun e w7 h => ⟨h.1, ?_, h.2.2.mono (fun b _ (e : b = kb) => by subst e; exact hkb2.1)⟩
              exact h.2.1.els ⟨hkb2.1, h.2.1.lt⟩
          have HB6 := Lib.hid hb6
          have HC6 := Lib.hid (And.intro h61 h62)
          clear h61 h62 hown6 hb6
          go_wp2_with fail
          refine hrev.mono ?_
          rintro e w7 ⟨rfl, hE7, hk7⟩
          clear hrev
          have h57 : Below w5.heap.size w5 w7 := HB6.out.trans (hk7.to_below (B := w5.heap.size) (fun b h => h) HB6.out.size)
          have hbo7 : Below wo.heap.size wo w7 := HB5.out.trans (h57.mono HB5.out.size)
          have HBo7 := Lib.hid hbo7
          have y0 := (h57.cell (p := ⟨wo.heap.size, 0, none⟩) zX).trans x0
          have y1 := (h57.cell (p := ⟨wo.heap.size, 1, none⟩) zX).trans x1
          have hZ7 := HZo.out.below hbo7 HZo.out.lt
          have HZ7 := Lib.hid hZ7
          have z3 : w7.cell? ⟨Z, 3, none⟩ = some v := hZ7.cell 3
          have zZ7 : Z < w7.heap.size := hZ7.lt
          have zX7 : wo.heap.size < w7.heap.size := by have := h57.size; omega
          have z57 : w5.heap.size ≤ w7.heap.size := h57.size
          have hlen : ((rs.take m).map revR).length = m := by rw [List.length_map, List.length_take]; omega
          have HLn := Lib.hid hlen
          have hcap1 : (((rs.take m).map revR).length + 1) * 32 ≤ 140737488355328 := by rw [hlen]; omega
          have hcap2 : ((rs.take m).map revR).length + 1 ≤ 9223372036854775807 := by rw [hlen]; omega
          have HCp := Lib.hid (And.intro hcap1 hcap2)
          have HOn := Lib.hid ((HOw.out.below hbo7 (Nat.le_refl _)).alloc (.cells #[.int .i64 ql, .slice A6 qr.length c6] 61))
          have HRd : Hid (Dat.rd (w7.alloc (.cells #[.int .i64 ql, .slice A6 qr.length c6] 61)) (OwnT (fun _ => False) w_12.heap.size v (w7.alloc (.cells #[.int .i64 ql, .slice A6 qr.length c6] 61))) (⟨ql, qr.reverse⟩ : Rule) [.int .i64 ql, .slice A6 qr.length c6]) := Lib.hid ⟨_, rfl, HQ.out.1, Vl.of_slice (by simp) (by simpa using HC6.out.1) HC6.out.2 ((hE7.below ((Below.refl _ _).alloc (Nat.le_refl _) _)).keep (fun _ _ _ => rfl) (fun b hb => ⟨.inr (by have h1 : w5.heap.size ≤ b := hb.1; omega), fun e => by have h1 : w5.heap.size ≤ b := hb.1; have h2 := (HOw.out.block b e).2; omega, by have h1 : b < w7.heap.size := hb.2; simp; omega⟩))⟩
          clear hE7 hk7 h57 hbo7 hZ7 x0 x1 hlen hcap1 hcap2
          go_wp2_with ((at_builtin); (refine wpList_own1 _ rfl _ _ elemRule rfl rfl HOn.out (⟨ql, qr.reverse⟩ : Rule) [.int .i64 ql, .slice A6 qr.length c6] rfl (At.new _ _ _) HRd.out HCp.out.1 HCp.out.2 (by simp; omega) ?_); (intro v' w9 hown9 hg9 _); (obtain ⟨A9, k9, hv9, _⟩ := hown9.form); (rw [snoc_len, HLn.out] at hv9); (subst hv9); (have hZ9 := (HZ7.out.alloc (.cells #[.int .i64 ql, .slice A6 qr.length c6] 61)).grown hg9 (fun e => by have h9 := (HOw.out.block _ e.symm).1; omega)); (have m3 := hZ9.cell 3); (have f3 := hZ9.frozen 3); (have zZ9 := hZ9.lt); (have H9 := Lib.hid (And.intro hown9 (And.intro hg9 hZ9))); (clear hown9 hg9 hZ9); (simp at m3))
          go_roundw
          case rel =>
            obtain ⟨hown9, hg9, hZ9⟩ := H9.out
            refine ⟨m + 1, _, hlt, by go_num, ?_, hZ9.set_ 3 _, (((HKo.out.below HBo7.out).alloc (.cells #[.int .i64 ql, .slice A6 qr.length c6] 61)).grown hg9 (fun k hk => .inr (HOw.out.block k hk).1)).setCell (p := ⟨Z, 3, none⟩) (.inl rfl) _⟩
            rw [HTk.out, List.map_append]
            exact hown9.setCell (p := ⟨Z, 3, none⟩) (fun e => by have h9 := (hown9.block _ e).1; dsimp only at h9; omega) (by simp; omega) _
          case measure => simp [intOf]; omega
        · have hZe := HZ.out
          have KEA_13 : Hid (Els wo S rs A) := Lib.hid (KEA_12.out.kept HKo.out (fun b hb (e : b = Z) => by have h9 := HS.out b hb; (try dsimp only at h9); omega))
          have KEB_13 : Hid (Els wo S rs2 B) := Lib.hid (KEB_12.out.kept HKo.out (fun b hb (e : b = Z) => by have h9 := HS.out b hb; (try dsimp only at h9); omega))
          have KA_13 : Hid (Blk' wo (w.heap.size) 25 #[.int .i64 gt, .int .i64 gn, .int .i64 gs, .slice A rs.length c]) := Lib.hid (KA_12.out.kept HKo.out (fun e : w.heap.size = Z => by omega))
          have KB_13 : Hid (Blk' wo (w.heap.size + 1) 25 #[.int .i64 ht, .int .i64 hn, .int .i64 hs, .slice B rs2.length d]) := Lib.hid (KB_12.out.kept HKo.out (fun e : w.heap.size + 1 = Z => by omega))
          have KEU_13 : Hid (Els wo (fun b => b < w_6.heap.size) ur AU) := Lib.hid (KEU_12.out.kept HKo.out (fun b hb (e : b = Z) => by have h9 := hb; (try dsimp only at h9); omega))
          have KU_13 : Hid (Blk' wo (w_6.heap.size) 25 #[.int .i64 gt, .int .i64 gn, .int .i64 gs, .slice AU ur.length cU]) := Lib.hid (KU_12.out.kept HKo.out (fun e : w_6.heap.size = Z => by omega))
          have KEV_13 : Hid (Els wo (fun b => b < w_8.heap.size) vr AV) := Lib.hid (KEV_12.out.kept HKo.out (fun b hb (e : b = Z) => by have h9 := hb; (try dsimp only at h9); omega))
          have KV_13 : Hid (Blk' wo (w_8.heap.size) 25 #[.int .i64 vt, .int .i64 vn, .int .i64 vs, .slice AV vr.length cV]) := Lib.hid (KV_12.out.kept HKo.out (fun e : w_8.heap.size = Z => by omega))
          have QB_13 : Hid (Below w.heap.size w wo) := Lib.hid (QB_12.out.trans ((HKo.out).to_below (B := w.heap.size) (fun b (e : b = Z) => by omega) QB_12.out.size))
          have sz_13 : w_12.heap.size ≤ wo.heap.size := (HKo.out).size
          clear KZ_12 KEA_12 KEB_12 KA_12 KB_12 KEU_12 KU_12 KEV_12 KV_12 QB_12
          have KZ_13 : Hid (Blk' wo (Z) 25 #[.int .i64 gt, .int .i64 gn, .int .i64 gs, v]) := Lib.hid (HZo.out)
          have hT : (rs.take m).map revR = ur := by rw [show m = rs.length by omega, List.take_length]; first | exact HUr.out | exact HUr.out.symm
          have HOF : Hid (Own wo (fun _ => False) w_12.heap.size 61 v ur) := Lib.hid (by rw [← hT]; exact HOw.out)
          obtain ⟨Av, cv, rfl, hcv1, hcv2, _⟩ := HOF.out.form
          have KEZ_13 : Hid (Els wo (fun b => b < wo.heap.size) ur Av) := Lib.hid (HOF.out.vl.els.2.2.2.keep (fun _ _ _ => rfl) (fun b hb => hb.2))
          have hmn : ¬ (m : Int) < (rs.length : Int) := by omega
          clear hT hZe
          have cU_13_0 : wo.cell? ⟨w_6.heap.size, 0, none⟩ = some (.int .i64 gt) := KU_13.out.cell 0
          have cU_13_1 : wo.cell? ⟨w_6.heap.size, 1, none⟩ = some (.int .i64 gn) := KU_13.out.cell 1
          have cU_13_2 : wo.cell? ⟨w_6.heap.size, 2, none⟩ = some (.int .i64 gs) := KU_13.out.cell 2
          have cU_13_3 : wo.cell? ⟨w_6.heap.size, 3, none⟩ = some (.slice AU ur.length cU) := KU_13.out.cell 3
          have zU_13 : w_6.heap.size < wo.heap.size := KU_13.out.lt
          have cZ_13_0 : wo.cell? ⟨Z, 0, none⟩ = some (.int .i64 gt) := KZ_13.out.cell 0
          have cZ_13_1 : wo.cell? ⟨Z, 1, none⟩ = some (.int .i64 gn) := KZ_13.out.cell 1
          have cZ_13_2 : wo.cell? ⟨Z, 2, none⟩ = some (.int .i64 gs) := KZ_13.out.cell 2
          have cZ_13_3 : wo.cell? ⟨Z, 3, none⟩ = some (.slice Av ur.length cv) := KZ_13.out.cell 3
          have zZ_13 : Z < wo.heap.size := KZ_13.out.lt
          go_wp2_with fail
          refine (same_true ⟨gt, gn, gs, ur⟩ ⟨gt, gn, gs, ur⟩ AU Av cU cv _ _ _ rfl ⟨hlU, hcU⟩ ⟨hcv1, hcv2⟩ KEU_13.out KEZ_13.out).mono ?_
          rintro e w_14 ⟨rfl, hbz⟩
          clear cU_13_0 cU_13_1 cU_13_2 cU_13_3 zU_13 cZ_13_0 cZ_13_1 cZ_13_2 cZ_13_3 zZ_13
          have KEA_14 : Hid (Els w_14 S rs A) := Lib.hid (KEA_13.out.below hbz)
          have KEB_14 : Hid (Els w_14 S rs2 B) := Lib.hid (KEB_13.out.below hbz)
          have KA_14 : Hid (Blk' w_14 (w.heap.size) 25 #[.int .i64 gt, .int .i64 gn, .int .i64 gs, .slice A rs.length c]) := Lib.hid (KA_13.out.below hbz KA_13.out.lt)
          have KB_14 : Hid (Blk' w_14 (w.heap.size + 1) 25 #[.int .i64 ht, .int .i64 hn, .int .i64 hs, .slice B rs2.length d]) := Lib.hid (KB_13.out.below hbz KB_13.out.lt)
          have KEU_14 : Hid (Els w_14 (fun b => b < w_6.heap.size) ur AU) := Lib.hid (KEU_13.out.below hbz)
          have KU_14 : Hid (Blk' w_14 (w_6.heap.size) 25 #[.int .i64 gt, .int .i64 gn, .int .i64 gs, .slice AU ur.length cU]) := Lib.hid (KU_13.out.below hbz KU_13.out.lt)
          have KEV_14 : Hid (Els w_14 (fun b => b < w_8.heap.size) vr AV) := Lib.hid (KEV_13.out.below hbz)
          have KV_14 : Hid (Blk' w_14 (w_8.heap.size) 25 #[.int .i64 vt, .int .i64 vn, .int .i64 vs, .slice AV vr.length cV]) := Lib.hid (KV_13.out.below hbz KV_13.out.lt)
          have KZ_14 : Hid (Blk' w_14 (Z) 25 #[.int .i64 gt, .int .i64 gn, .int .i64 gs, .slice Av ur.length cv]) := Lib.hid (KZ_13.out.below hbz KZ_13.out.lt)
          have KEZ_14 : Hid (Els w_14 (fun b => b < wo.heap.size) ur Av) := Lib.hid (KEZ_13.out.below hbz)
          have QB_14 : Hid (Below w.heap.size w w_14) := Lib.hid (bthen QB_13.out hbz QB_13.out.size)
          have sz_14 : wo.heap.size ≤ w_14.heap.size := (hbz).size
          clear hbz
          clear KEA_13 KEB_13 KA_13 KB_13 KEU_13 KU_13 KEV_13 KV_13 KZ_13 KEZ_13 QB_13
          have cA_14_0 : w_14.cell? ⟨w.heap.size, 0, none⟩ = some (.int .i64 gt) := KA_14.out.cell 0
          have cA_14_1 : w_14.cell? ⟨w.heap.size, 1, none⟩ = some (.int .i64 gn) := KA_14.out.cell 1
          have cA_14_2 : w_14.cell? ⟨w.heap.size, 2, none⟩ = some (.int .i64 gs) := KA_14.out.cell 2
          have cA_14_3 : w_14.cell? ⟨w.heap.size, 3, none⟩ = some (.slice A rs.length c) := KA_14.out.cell 3
          have zA_14 : w.heap.size < w_14.heap.size := KA_14.out.lt
          have cB_14_0 : w_14.cell? ⟨w.heap.size + 1, 0, none⟩ = some (.int .i64 ht) := KB_14.out.cell 0
          have cB_14_1 : w_14.cell? ⟨w.heap.size + 1, 1, none⟩ = some (.int .i64 hn) := KB_14.out.cell 1
          have cB_14_2 : w_14.cell? ⟨w.heap.size + 1, 2, none⟩ = some (.int .i64 hs) := KB_14.out.cell 2
          have cB_14_3 : w_14.cell? ⟨w.heap.size + 1, 3, none⟩ = some (.slice B rs2.length d) := KB_14.out.cell 3
          have zB_14 : w.heap.size + 1 < w_14.heap.size := KB_14.out.lt
          go_upto_region 21 with (fail)
          go_wp2_with fail
          refine (pairErr_any ⟨gt, gn, gs, rs⟩ ⟨ht, hn, hs, rs2⟩ A B c d S _ HI.out.1 HI.out.2 hlc hc KEA_14.out hld hd KEB_14.out (fun b hb => by have := HS.out b hb; omega)).mono ?_
          rintro e w_15 ⟨rfl, hbz⟩
          clear cA_14_0 cA_14_1 cA_14_2 cA_14_3 zA_14 cB_14_0 cB_14_1 cB_14_2 cB_14_3 zB_14
          have KEA_15 : Hid (Els w_15 S rs A) := Lib.hid (KEA_14.out.below hbz)
          have KEB_15 : Hid (Els w_15 S rs2 B) := Lib.hid (KEB_14.out.below hbz)
          have KA_15 : Hid (Blk' w_15 (w.heap.size) 25 #[.int .i64 gt, .int .i64 gn, .int .i64 gs, .slice A rs.length c]) := Lib.hid (KA_14.out.below hbz KA_14.out.lt)
          have KB_15 : Hid (Blk' w_15 (w.heap.size + 1) 25 #[.int .i64 ht, .int .i64 hn, .int .i64 hs, .slice B rs2.length d]) := Lib.hid (KB_14.out.below hbz KB_14.out.lt)
          have KEV_15 : Hid (Els w_15 (fun b => b < w_8.heap.size) vr AV) := Lib.hid (KEV_14.out.below hbz)
          have KV_15 : Hid (Blk' w_15 (w_8.heap.size) 25 #[.int .i64 vt, .int .i64 vn, .int .i64 vs, .slice AV vr.length cV]) := Lib.hid (KV_14.out.below hbz KV_14.out.lt)
          have QB_15 : Hid (Below w.heap.size w w_15) := Lib.hid (bthen QB_14.out hbz QB_14.out.size)
          have sz_15 : w_14.heap.size ≤ w_15.heap.size := (hbz).size
          clear hbz
          clear KEA_14 KEB_14 KA_14 KB_14 KEV_14 KV_14 QB_14
          obtain ⟨PE, hPE⟩ : ∃ p, p = pairE ⟨gt, gn, gs, rs⟩ ⟨ht, hn, hs, rs2⟩ := ⟨_, rfl⟩
          rw [← hPE]
          have HPE := Lib.hid hPE
          have HPP : Hid (P = if PE = 0 ∧ (x < 0 ∨ gt ≤ x) then 1 else PE) := Lib.hid (by rw [HP.out, hPE]; rfl)
          clear hPE
          by_cases h0 : PE = 0
          · subst h0
            by_cases hx : x < 0
            · have hPv : P = 1 := by rw [HPP.out, if_pos ⟨rfl, .inl hx⟩]
              have hPn : ¬ P = 0 := by rw [hPv]; first | exact h0 | decide
              have hvb := HV.out
              rw [putRR_bad (by rw [← HP.out]; exact hPn), ← HP.out, hPv] at hvb
              injection hvb with hvb1 hvb2
              injection hvb1 with h1 h2 h3 h4
              subst h1; subst h2; subst h3; subst h4; subst hvb2
              clear hPn hPv
              have cA_15_0 : w_15.cell? ⟨w.heap.size, 0, none⟩ = some (.int .i64 gt) := KA_15.out.cell 0
              have cA_15_1 : w_15.cell? ⟨w.heap.size, 1, none⟩ = some (.int .i64 gn) := KA_15.out.cell 1
              have cA_15_2 : w_15.cell? ⟨w.heap.size, 2, none⟩ = some (.int .i64 gs) := KA_15.out.cell 2
              have cA_15_3 : w_15.cell? ⟨w.heap.size, 3, none⟩ = some (.slice A rs.length c) := KA_15.out.cell 3
              have zA_15 : w.heap.size < w_15.heap.size := KA_15.out.lt
              obtain ⟨w_16, hww_16⟩ : ∃ w_16 : World, w_16 = w_15.alloc (.cells #[.int .i64 0, .int .i64 0, .int .i64 0, .slice none 0 0] 25) := ⟨_, rfl⟩
              have hbw_16 : Below w_15.heap.size w_15 w_16 := by rw [hww_16]; exact (Below.refl _ _).alloc (by first | exact Nat.le_refl _ | (simp; done) | (simp; omega)) _
              have sqw_16 : w_16.heap.size = w_15.heap.size + 1 := by rw [hww_16]; simp
              have KEA_16 : Hid (Els w_16 S rs A) := Lib.hid (KEA_15.out.below hbw_16)
              have KEB_16 : Hid (Els w_16 S rs2 B) := Lib.hid (KEB_15.out.below hbw_16)
              have KA_16 : Hid (Blk' w_16 (w.heap.size) 25 #[.int .i64 gt, .int .i64 gn, .int .i64 gs, .slice A rs.length c]) := Lib.hid (KA_15.out.below hbw_16 KA_15.out.lt)
              have KB_16 : Hid (Blk' w_16 (w.heap.size + 1) 25 #[.int .i64 ht, .int .i64 hn, .int .i64 hs, .slice B rs2.length d]) := Lib.hid (KB_15.out.below hbw_16 KB_15.out.lt)
              have KEV_16 : Hid (Els w_16 (fun b => b < w_8.heap.size) ([] : List Rule) AV) := Lib.hid (KEV_15.out.below hbw_16)
              have KV_16 : Hid (Blk' w_16 (w_8.heap.size) 25 #[.int .i64 0, .int .i64 0, .int .i64 0, .slice AV ([] : List Rule).length cV]) := Lib.hid (KV_15.out.below hbw_16 KV_15.out.lt)
              have QB_16 : Hid (Below w.heap.size w w_16) := Lib.hid (bthen QB_15.out hbw_16 QB_15.out.size)
              have sz_16 : w_15.heap.size + 1 ≤ w_16.heap.size := by rw [sqw_16]; exact Nat.le_refl _
              have KQ_16 : Hid (Blk' w_16 (w_15.heap.size) 25 #[.int .i64 0, .int .i64 0, .int .i64 0, .slice none 0 0]) := Lib.hid (by rw [hww_16]; exact Blk'.new w_15 _ _)
              have HWw_16 := Lib.hid hww_16
              have SQw_16 := Lib.hid sqw_16
              clear hww_16 hbw_16 sqw_16
              clear KEA_15 KEB_15 KA_15 KB_15 KEV_15 KV_15 QB_15
              go_upto_region 25 with (fail)
              rw [← HWw_16.out]
              clear cA_15_0 cA_15_1 cA_15_2 cA_15_3 zA_15
              have cV_16_0 : w_16.cell? ⟨w_8.heap.size, 0, none⟩ = some (.int .i64 0) := KV_16.out.cell 0
              have cV_16_1 : w_16.cell? ⟨w_8.heap.size, 1, none⟩ = some (.int .i64 0) := KV_16.out.cell 1
              have cV_16_2 : w_16.cell? ⟨w_8.heap.size, 2, none⟩ = some (.int .i64 0) := KV_16.out.cell 2
              have cV_16_3 : w_16.cell? ⟨w_8.heap.size, 3, none⟩ = some (.slice AV ([] : List Rule).length cV) := KV_16.out.cell 3
              have zV_16 : w_8.heap.size < w_16.heap.size := KV_16.out.lt
              have cQ_16_0 : w_16.cell? ⟨w_15.heap.size, 0, none⟩ = some (.int .i64 0) := KQ_16.out.cell 0
              have cQ_16_1 : w_16.cell? ⟨w_15.heap.size, 1, none⟩ = some (.int .i64 0) := KQ_16.out.cell 1
              have cQ_16_2 : w_16.cell? ⟨w_15.heap.size, 2, none⟩ = some (.int .i64 0) := KQ_16.out.cell 2
              have cQ_16_3 : w_16.cell? ⟨w_15.heap.size, 3, none⟩ = some (.slice none 0 0) := KQ_16.out.cell 3
              have zQ_16 : w_15.heap.size < w_16.heap.size := KQ_16.out.lt
              go_wp2_with fail
              refine (same_true zeroG zeroG AV none cV 0 (fun _ => True) (fun _ => True) _ rfl ⟨by simp [zeroG], hcV⟩ ⟨by simp [zeroG], by omega⟩ (fun h => absurd rfl h) (fun h => absurd rfl h)).mono ?_
              rintro e w_17 ⟨rfl, hbz⟩
              clear cV_16_0 cV_16_1 cV_16_2 cV_16_3 zV_16 cQ_16_0 cQ_16_1 cQ_16_2 cQ_16_3 zQ_16
              have KEA_17 : Hid (Els w_17 S rs A) := Lib.hid (KEA_16.out.below hbz)
              have KEB_17 : Hid (Els w_17 S rs2 B) := Lib.hid (KEB_16.out.below hbz)
              have KA_17 : Hid (Blk' w_17 (w.heap.size) 25 #[.int .i64 gt, .int .i64 gn, .int .i64 gs, .slice A rs.length c]) := Lib.hid (KA_16.out.below hbz KA_16.out.lt)
              have KB_17 : Hid (Blk' w_17 (w.heap.size + 1) 25 #[.int .i64 ht, .int .i64 hn, .int .i64 hs, .slice B rs2.length d]) := Lib.hid (KB_16.out.below hbz KB_16.out.lt)
              have KEV_17 : Hid (Els w_17 (fun b => b < w_8.heap.size) ([] : List Rule) AV) := Lib.hid (KEV_16.out.below hbz)
              have KV_17 : Hid (Blk' w_17 (w_8.heap.size) 25 #[.int .i64 0, .int .i64 0, .int .i64 0, .slice AV ([] : List Rule).length cV]) := Lib.hid (KV_16.out.below hbz KV_16.out.lt)
              have KQ_17 : Hid (Blk' w_17 (w_15.heap.size) 25 #[.int .i64 0, .int .i64 0, .int .i64 0, .slice none 0 0]) := Lib.hid (KQ_16.out.below hbz KQ_16.out.lt)
              have QB_17 : Hid (Below w.heap.size w w_17) := Lib.hid (bthen QB_16.out hbz QB_16.out.size)
              have sz_17 : w_16.heap.size ≤ w_17.heap.size := (hbz).size
              clear hbz
              clear KEA_16 KEB_16 KA_16 KB_16 KEV_16 KV_16 KQ_16 QB_16
              go_wp2
              go_ret
              exact ⟨rfl, QB_17.out⟩
            · by_cases hx2 : gt ≤ x
              · have hPv : P = 1 := by rw [HPP.out, if_pos ⟨rfl, .inr hx2⟩]
                have hPn : ¬ P = 0 := by rw [hPv]; first | exact h0 | decide
                have hvb := HV.out
                rw [putRR_bad (by rw [← HP.out]; exact hPn), ← HP.out, hPv] at hvb
                injection hvb with hvb1 hvb2
                injection hvb1 with h1 h2 h3 h4
                subst h1; subst h2; subst h3; subst h4; subst hvb2
                clear hPn hPv
                have cA_15_0 : w_15.cell? ⟨w.heap.size, 0, none⟩ = some (.int .i64 gt) := KA_15.out.cell 0
                have cA_15_1 : w_15.cell? ⟨w.heap.size, 1, none⟩ = some (.int .i64 gn) := KA_15.out.cell 1
                have cA_15_2 : w_15.cell? ⟨w.heap.size, 2, none⟩ = some (.int .i64 gs) := KA_15.out.cell 2
                have cA_15_3 : w_15.cell? ⟨w.heap.size, 3, none⟩ = some (.slice A rs.length c) := KA_15.out.cell 3
                have zA_15 : w.heap.size < w_15.heap.size := KA_15.out.lt
                obtain ⟨w_16, hww_16⟩ : ∃ w_16 : World, w_16 = w_15.alloc (.cells #[.int .i64 0, .int .i64 0, .int .i64 0, .slice none 0 0] 25) := ⟨_, rfl⟩
                have hbw_16 : Below w_15.heap.size w_15 w_16 := by rw [hww_16]; exact (Below.refl _ _).alloc (by first | exact Nat.le_refl _ | (simp; done) | (simp; omega)) _
                have sqw_16 : w_16.heap.size = w_15.heap.size + 1 := by rw [hww_16]; simp
                have KEA_16 : Hid (Els w_16 S rs A) := Lib.hid (KEA_15.out.below hbw_16)
                have KEB_16 : Hid (Els w_16 S rs2 B) := Lib.hid (KEB_15.out.below hbw_16)
                have KA_16 : Hid (Blk' w_16 (w.heap.size) 25 #[.int .i64 gt, .int .i64 gn, .int .i64 gs, .slice A rs.length c]) := Lib.hid (KA_15.out.below hbw_16 KA_15.out.lt)
                have KB_16 : Hid (Blk' w_16 (w.heap.size + 1) 25 #[.int .i64 ht, .int .i64 hn, .int .i64 hs, .slice B rs2.length d]) := Lib.hid (KB_15.out.below hbw_16 KB_15.out.lt)
                have KEV_16 : Hid (Els w_16 (fun b => b < w_8.heap.size) ([] : List Rule) AV) := Lib.hid (KEV_15.out.below hbw_16)
                have KV_16 : Hid (Blk' w_16 (w_8.heap.size) 25 #[.int .i64 0, .int .i64 0, .int .i64 0, .slice AV ([] : List Rule).length cV]) := Lib.hid (KV_15.out.below hbw_16 KV_15.out.lt)
                have QB_16 : Hid (Below w.heap.size w w_16) := Lib.hid (bthen QB_15.out hbw_16 QB_15.out.size)
                have sz_16 : w_15.heap.size + 1 ≤ w_16.heap.size := by rw [sqw_16]; exact Nat.le_refl _
                have KQ_16 : Hid (Blk' w_16 (w_15.heap.size) 25 #[.int .i64 0, .int .i64 0, .int .i64 0, .slice none 0 0]) := Lib.hid (by rw [hww_16]; exact Blk'.new w_15 _ _)
                have HWw_16 := Lib.hid hww_16
                have SQw_16 := Lib.hid sqw_16
                clear hww_16 hbw_16 sqw_16
                clear KEA_15 KEB_15 KA_15 KB_15 KEV_15 KV_15 QB_15
                go_upto_region 25 with (fail)
                rw [← HWw_16.out]
                clear cA_15_0 cA_15_1 cA_15_2 cA_15_3 zA_15
                have cV_16_0 : w_16.cell? ⟨w_8.heap.size, 0, none⟩ = some (.int .i64 0) := KV_16.out.cell 0
                have cV_16_1 : w_16.cell? ⟨w_8.heap.size, 1, none⟩ = some (.int .i64 0) := KV_16.out.cell 1
                have cV_16_2 : w_16.cell? ⟨w_8.heap.size, 2, none⟩ = some (.int .i64 0) := KV_16.out.cell 2
                have cV_16_3 : w_16.cell? ⟨w_8.heap.size, 3, none⟩ = some (.slice AV ([] : List Rule).length cV) := KV_16.out.cell 3
                have zV_16 : w_8.heap.size < w_16.heap.size := KV_16.out.lt
                have cQ_16_0 : w_16.cell? ⟨w_15.heap.size, 0, none⟩ = some (.int .i64 0) := KQ_16.out.cell 0
                have cQ_16_1 : w_16.cell? ⟨w_15.heap.size, 1, none⟩ = some (.int .i64 0) := KQ_16.out.cell 1
                have cQ_16_2 : w_16.cell? ⟨w_15.heap.size, 2, none⟩ = some (.int .i64 0) := KQ_16.out.cell 2
                have cQ_16_3 : w_16.cell? ⟨w_15.heap.size, 3, none⟩ = some (.slice none 0 0) := KQ_16.out.cell 3
                have zQ_16 : w_15.heap.size < w_16.heap.size := KQ_16.out.lt
                go_wp2_with fail
                refine (same_true zeroG zeroG AV none cV 0 (fun _ => True) (fun _ => True) _ rfl ⟨by simp [zeroG], hcV⟩ ⟨by simp [zeroG], by omega⟩ (fun h => absurd rfl h) (fun h => absurd rfl h)).mono ?_
                rintro e w_17 ⟨rfl, hbz⟩
                clear cV_16_0 cV_16_1 cV_16_2 cV_16_3 zV_16 cQ_16_0 cQ_16_1 cQ_16_2 cQ_16_3 zQ_16
                have KEA_17 : Hid (Els w_17 S rs A) := Lib.hid (KEA_16.out.below hbz)
                have KEB_17 : Hid (Els w_17 S rs2 B) := Lib.hid (KEB_16.out.below hbz)
                have KA_17 : Hid (Blk' w_17 (w.heap.size) 25 #[.int .i64 gt, .int .i64 gn, .int .i64 gs, .slice A rs.length c]) := Lib.hid (KA_16.out.below hbz KA_16.out.lt)
                have KB_17 : Hid (Blk' w_17 (w.heap.size + 1) 25 #[.int .i64 ht, .int .i64 hn, .int .i64 hs, .slice B rs2.length d]) := Lib.hid (KB_16.out.below hbz KB_16.out.lt)
                have KEV_17 : Hid (Els w_17 (fun b => b < w_8.heap.size) ([] : List Rule) AV) := Lib.hid (KEV_16.out.below hbz)
                have KV_17 : Hid (Blk' w_17 (w_8.heap.size) 25 #[.int .i64 0, .int .i64 0, .int .i64 0, .slice AV ([] : List Rule).length cV]) := Lib.hid (KV_16.out.below hbz KV_16.out.lt)
                have KQ_17 : Hid (Blk' w_17 (w_15.heap.size) 25 #[.int .i64 0, .int .i64 0, .int .i64 0, .slice none 0 0]) := Lib.hid (KQ_16.out.below hbz KQ_16.out.lt)
                have QB_17 : Hid (Below w.heap.size w w_17) := Lib.hid (bthen QB_16.out hbz QB_16.out.size)
                have sz_17 : w_16.heap.size ≤ w_17.heap.size := (hbz).size
                clear hbz
                clear KEA_16 KEB_16 KA_16 KB_16 KEV_16 KV_16 KQ_16 QB_16
                go_wp2
                go_ret
                exact ⟨rfl, QB_17.out⟩
              · have hPv : P = 0 := by rw [HPP.out, if_neg (fun h => h.2.elim hx hx2)]
                obtain ⟨hq1, hq2, hq3, hq4, _⟩ := putRR_ok (g := ⟨gt, gn, gs, rs⟩) (h := ⟨ht, hn, hs, rs2⟩) (x := x) (by rw [← HP.out]; exact hPv)
                have hvq := HV.out
                rw [hq1] at hvq
                have HVQ := Lib.hid hvq
                have hvb := valid_b (validG_of hq3)
                have HVb := Lib.hid hvb
                clear hq1 hq2 hq3 hq4 hvq hvb hPv
                have cA_15_0 : w_15.cell? ⟨w.heap.size, 0, none⟩ = some (.int .i64 gt) := KA_15.out.cell 0
                have cA_15_1 : w_15.cell? ⟨w.heap.size, 1, none⟩ = some (.int .i64 gn) := KA_15.out.cell 1
                have cA_15_2 : w_15.cell? ⟨w.heap.size, 2, none⟩ = some (.int .i64 gs) := KA_15.out.cell 2
                have cA_15_3 : w_15.cell? ⟨w.heap.size, 3, none⟩ = some (.slice A rs.length c) := KA_15.out.cell 3
                have zA_15 : w.heap.size < w_15.heap.size := KA_15.out.lt
                obtain ⟨w_16, hww_16⟩ : ∃ w_16 : World, w_16 = w_15.alloc (.cells #[.int .i64 0, .int .i64 0, .int .i64 0, .slice none 0 0] 25) := ⟨_, rfl⟩
                have hbw_16 : Below w_15.heap.size w_15 w_16 := by rw [hww_16]; exact (Below.refl _ _).alloc (by first | exact Nat.le_refl _ | (simp; done) | (simp; omega)) _
                have sqw_16 : w_16.heap.size = w_15.heap.size + 1 := by rw [hww_16]; simp
                have KEA_16 : Hid (Els w_16 S rs A) := Lib.hid (KEA_15.out.below hbw_16)
                have KEB_16 : Hid (Els w_16 S rs2 B) := Lib.hid (KEB_15.out.below hbw_16)
                have KA_16 : Hid (Blk' w_16 (w.heap.size) 25 #[.int .i64 gt, .int .i64 gn, .int .i64 gs, .slice A rs.length c]) := Lib.hid (KA_15.out.below hbw_16 KA_15.out.lt)
                have KB_16 : Hid (Blk' w_16 (w.heap.size + 1) 25 #[.int .i64 ht, .int .i64 hn, .int .i64 hs, .slice B rs2.length d]) := Lib.hid (KB_15.out.below hbw_16 KB_15.out.lt)
                have KEV_16 : Hid (Els w_16 (fun b => b < w_8.heap.size) vr AV) := Lib.hid (KEV_15.out.below hbw_16)
                have KV_16 : Hid (Blk' w_16 (w_8.heap.size) 25 #[.int .i64 vt, .int .i64 vn, .int .i64 vs, .slice AV vr.length cV]) := Lib.hid (KV_15.out.below hbw_16 KV_15.out.lt)
                have QB_16 : Hid (Below w.heap.size w w_16) := Lib.hid (bthen QB_15.out hbw_16 QB_15.out.size)
                have sz_16 : w_15.heap.size + 1 ≤ w_16.heap.size := by rw [sqw_16]; exact Nat.le_refl _
                have KQ_16 : Hid (Blk' w_16 (w_15.heap.size) 25 #[.int .i64 0, .int .i64 0, .int .i64 0, .slice none 0 0]) := Lib.hid (by rw [hww_16]; exact Blk'.new w_15 _ _)
                have HWw_16 := Lib.hid hww_16
                have SQw_16 := Lib.hid sqw_16
                clear hww_16 hbw_16 sqw_16
                clear KEA_15 KEB_15 KA_15 KB_15 KEV_15 KV_15 QB_15
                go_upto_region 25 with (fail)
                rw [← HWw_16.out]
                clear cA_15_0 cA_15_1 cA_15_2 cA_15_3 zA_15
                have cA_16_0 : w_16.cell? ⟨w.heap.size, 0, none⟩ = some (.int .i64 gt) := KA_16.out.cell 0
                have cA_16_1 : w_16.cell? ⟨w.heap.size, 1, none⟩ = some (.int .i64 gn) := KA_16.out.cell 1
                have cA_16_2 : w_16.cell? ⟨w.heap.size, 2, none⟩ = some (.int .i64 gs) := KA_16.out.cell 2
                have cA_16_3 : w_16.cell? ⟨w.heap.size, 3, none⟩ = some (.slice A rs.length c) := KA_16.out.cell 3
                have zA_16 : w.heap.size < w_16.heap.size := KA_16.out.lt
                have cB_16_0 : w_16.cell? ⟨w.heap.size + 1, 0, none⟩ = some (.int .i64 ht) := KB_16.out.cell 0
                have cB_16_1 : w_16.cell? ⟨w.heap.size + 1, 1, none⟩ = some (.int .i64 hn) := KB_16.out.cell 1
                have cB_16_2 : w_16.cell? ⟨w.heap.size + 1, 2, none⟩ = some (.int .i64 hs) := KB_16.out.cell 2
                have cB_16_3 : w_16.cell? ⟨w.heap.size + 1, 3, none⟩ = some (.slice B rs2.length d) := KB_16.out.cell 3
                have zB_16 : w.heap.size + 1 < w_16.heap.size := KB_16.out.lt
                go_wp2_with fail
                refine (put_ref ⟨gt, gn, gs, rs⟩ ⟨ht, hn, hs, rs2⟩ x [] A B none c d 0 S _ HVg.out HVb.out.1 HVb.out.2 (by decide) hlc hc KEA_16.out hld hd KEB_16.out (Nat.le_refl _) (by omega) (fun h => absurd rfl h) (fun b hb => by have := HS.out b hb; omega)).mono ?_
                rintro e w_17 ⟨Aq, cq, heq, hlq, hcq, hEq, hbz⟩
                rw [← HVQ.out] at heq hlq hEq
                subst heq
                dsimp only at hlq hEq
                clear cA_16_0 cA_16_1 cA_16_2 cA_16_3 zA_16 cB_16_0 cB_16_1 cB_16_2 cB_16_3 zB_16
                have KEA_17 : Hid (Els w_17 S rs A) := Lib.hid (KEA_16.out.below hbz)
                have KEB_17 : Hid (Els w_17 S rs2 B) := Lib.hid (KEB_16.out.below hbz)
                have KA_17 : Hid (Blk' w_17 (w.heap.size) 25 #[.int .i64 gt, .int .i64 gn, .int .i64 gs, .slice A rs.length c]) := Lib.hid (KA_16.out.below hbz KA_16.out.lt)
                have KB_17 : Hid (Blk' w_17 (w.heap.size + 1) 25 #[.int .i64 ht, .int .i64 hn, .int .i64 hs, .slice B rs2.length d]) := Lib.hid (KB_16.out.below hbz KB_16.out.lt)
                have KEV_17 : Hid (Els w_17 (fun b => b < w_8.heap.size) vr AV) := Lib.hid (KEV_16.out.below hbz)
                have KV_17 : Hid (Blk' w_17 (w_8.heap.size) 25 #[.int .i64 vt, .int .i64 vn, .int .i64 vs, .slice AV vr.length cV]) := Lib.hid (KV_16.out.below hbz KV_16.out.lt)
                have KQ_17 : Hid (Blk' w_17 (w_15.heap.size) 25 #[.int .i64 0, .int .i64 0, .int .i64 0, .slice none 0 0]) := Lib.hid (KQ_16.out.below hbz KQ_16.out.lt)
                have QB_17 : Hid (Below w.heap.size w w_17) := Lib.hid (bthen QB_16.out hbz QB_16.out.size)
                have sz_17 : w_16.heap.size ≤ w_17.heap.size := (hbz).size
                clear hbz
                clear KEA_16 KEB_16 KA_16 KB_16 KEV_16 KV_16 KQ_16 QB_16
                have KEQ_17 : Hid (Els w_17 (fun b => (S b ∨ w_16.heap.size ≤ b) ∧ b < w_17.heap.size) vr Aq) := Lib.hid (hEq)
                clear hEq
                try dsimp only
                have cQ_17_0 : w_17.cell? ⟨w_15.heap.size, 0, none⟩ = some (.int .i64 0) := KQ_17.out.cell 0
                have cQ_17_1 : w_17.cell? ⟨w_15.heap.size, 1, none⟩ = some (.int .i64 0) := KQ_17.out.cell 1
                have cQ_17_2 : w_17.cell? ⟨w_15.heap.size, 2, none⟩ = some (.int .i64 0) := KQ_17.out.cell 2
                have cQ_17_3 : w_17.cell? ⟨w_15.heap.size, 3, none⟩ = some (.slice none 0 0) := KQ_17.out.cell 3
                have zQ_17 : w_15.heap.size < w_17.heap.size := KQ_17.out.lt
                have fQ_17_0 := KQ_17.out.frozen 0
                have fQ_17_1 := KQ_17.out.frozen 1
                have fQ_17_2 := KQ_17.out.frozen 2
                have fQ_17_3 := KQ_17.out.frozen 3
                go_upto_region 27 with (fail)
                clear cQ_17_0 cQ_17_1 cQ_17_2 cQ_17_3 zQ_17 fQ_17_0 fQ_17_1 fQ_17_2 fQ_17_3
                obtain ⟨w_18, hww_18⟩ : ∃ w_18 : World, w_18 = (((w_17.setCell ⟨w_15.heap.size, 0, none⟩ (.int .i64 vt)).setCell ⟨w_15.heap.size, 1, none⟩ (.int .i64 vn)).setCell ⟨w_15.heap.size, 2, none⟩ (.int .i64 vs)).setCell ⟨w_15.heap.size, 3, none⟩ (.slice Aq vr.length cq) := ⟨_, rfl⟩
                obtain ⟨hnw_18, kkw_18⟩ := set4 KQ_17.out (.int .i64 vt) (.int .i64 vn) (.int .i64 vs) (.slice Aq vr.length cq)
                rw [← hww_18] at hnw_18 kkw_18
                have KEA_18 : Hid (Els w_18 S rs A) := Lib.hid (KEA_17.out.kept kkw_18 (fun b hb (e : b = w_15.heap.size) => by have h9 := HS.out b hb; (try dsimp only at h9); omega))
                have KEB_18 : Hid (Els w_18 S rs2 B) := Lib.hid (KEB_17.out.kept kkw_18 (fun b hb (e : b = w_15.heap.size) => by have h9 := HS.out b hb; (try dsimp only at h9); omega))
                have KA_18 : Hid (Blk' w_18 (w.heap.size) 25 #[.int .i64 gt, .int .i64 gn, .int .i64 gs, .slice A rs.length c]) := Lib.hid (KA_17.out.kept kkw_18 (fun e : w.heap.size = w_15.heap.size => by omega))
                have KB_18 : Hid (Blk' w_18 (w.heap.size + 1) 25 #[.int .i64 ht, .int .i64 hn, .int .i64 hs, .slice B rs2.length d]) := Lib.hid (KB_17.out.kept kkw_18 (fun e : w.heap.size + 1 = w_15.heap.size => by omega))
                have KEV_18 : Hid (Els w_18 (fun b => b < w_8.heap.size) vr AV) := Lib.hid (KEV_17.out.kept kkw_18 (fun b hb (e : b = w_15.heap.size) => by have h9 := hb; (try dsimp only at h9); omega))
                have KV_18 : Hid (Blk' w_18 (w_8.heap.size) 25 #[.int .i64 vt, .int .i64 vn, .int .i64 vs, .slice AV vr.length cV]) := Lib.hid (KV_17.out.kept kkw_18 (fun e : w_8.heap.size = w_15.heap.size => by omega))
                have KEQ_18 : Hid (Els w_18 (fun b => (S b ∨ w_16.heap.size ≤ b) ∧ b < w_17.heap.size) vr Aq) := Lib.hid (KEQ_17.out.kept kkw_18 (fun b hb (e : b = w_15.heap.size) => by have h9 := (show b < w.heap.size ∨ w_16.heap.size ≤ b from hb.1.imp (HS.out b) id); (try dsimp only at h9); omega))
                have QB_18 : Hid (Below w.heap.size w w_18) := Lib.hid (QB_17.out.trans ((kkw_18).to_below (B := w.heap.size) (fun b (e : b = w_15.heap.size) => by omega) QB_17.out.size))
                have sz_18 : w_17.heap.size ≤ w_18.heap.size := (kkw_18).size
                have KQ_18 : Hid (Blk' w_18 (w_15.heap.size) 25 #[.int .i64 vt, .int .i64 vn, .int .i64 vs, .slice Aq vr.length cq]) := Lib.hid (hnw_18)
                have HWw_18 := Lib.hid hww_18
                clear hww_18 hnw_18 kkw_18
                clear KQ_17 KEA_17 KEB_17 KA_17 KB_17 KEV_17 KV_17 KEQ_17 QB_17
                rw [← HWw_18.out]
                have cV_18_0 : w_18.cell? ⟨w_8.heap.size, 0, none⟩ = some (.int .i64 vt) := KV_18.out.cell 0
                have cV_18_1 : w_18.cell? ⟨w_8.heap.size, 1, none⟩ = some (.int .i64 vn) := KV_18.out.cell 1
                have cV_18_2 : w_18.cell? ⟨w_8.heap.size, 2, none⟩ = some (.int .i64 vs) := KV_18.out.cell 2
                have cV_18_3 : w_18.cell? ⟨w_8.heap.size, 3, none⟩ = some (.slice AV vr.length cV) := KV_18.out.cell 3
                have zV_18 : w_8.heap.size < w_18.heap.size := KV_18.out.lt
                have cQ_18_0 : w_18.cell? ⟨w_15.heap.size, 0, none⟩ = some (.int .i64 vt) := KQ_18.out.cell 0
                have cQ_18_1 : w_18.cell? ⟨w_15.heap.size, 1, none⟩ = some (.int .i64 vn) := KQ_18.out.cell 1
                have cQ_18_2 : w_18.cell? ⟨w_15.heap.size, 2, none⟩ = some (.int .i64 vs) := KQ_18.out.cell 2
                have cQ_18_3 : w_18.cell? ⟨w_15.heap.size, 3, none⟩ = some (.slice Aq vr.length cq) := KQ_18.out.cell 3
                have zQ_18 : w_15.heap.size < w_18.heap.size := KQ_18.out.lt
                go_wp2_with fail
                refine (same_true ⟨vt, vn, vs, vr⟩ ⟨vt, vn, vs, vr⟩ AV Aq cV cq _ _ _ rfl ⟨hlV, hcV⟩ ⟨hlq, hcq⟩ KEV_18.out KEQ_18.out).mono ?_
                rintro e w_19 ⟨rfl, hbz⟩
                clear cV_18_0 cV_18_1 cV_18_2 cV_18_3 zV_18 cQ_18_0 cQ_18_1 cQ_18_2 cQ_18_3 zQ_18
                have KEA_19 : Hid (Els w_19 S rs A) := Lib.hid (KEA_18.out.below hbz)
                have KEB_19 : Hid (Els w_19 S rs2 B) := Lib.hid (KEB_18.out.below hbz)
                have KA_19 : Hid (Blk' w_19 (w.heap.size) 25 #[.int .i64 gt, .int .i64 gn, .int .i64 gs, .slice A rs.length c]) := Lib.hid (KA_18.out.below hbz KA_18.out.lt)
                have KB_19 : Hid (Blk' w_19 (w.heap.size + 1) 25 #[.int .i64 ht, .int .i64 hn, .int .i64 hs, .slice B rs2.length d]) := Lib.hid (KB_18.out.below hbz KB_18.out.lt)
                have KEV_19 : Hid (Els w_19 (fun b => b < w_8.heap.size) vr AV) := Lib.hid (KEV_18.out.below hbz)
                have KV_19 : Hid (Blk' w_19 (w_8.heap.size) 25 #[.int .i64 vt, .int .i64 vn, .int .i64 vs, .slice AV vr.length cV]) := Lib.hid (KV_18.out.below hbz KV_18.out.lt)
                have KEQ_19 : Hid (Els w_19 (fun b => (S b ∨ w_16.heap.size ≤ b) ∧ b < w_17.heap.size) vr Aq) := Lib.hid (KEQ_18.out.below hbz)
                have KQ_19 : Hid (Blk' w_19 (w_15.heap.size) 25 #[.int .i64 vt, .int .i64 vn, .int .i64 vs, .slice Aq vr.length cq]) := Lib.hid (KQ_18.out.below hbz KQ_18.out.lt)
                have QB_19 : Hid (Below w.heap.size w w_19) := Lib.hid (bthen QB_18.out hbz QB_18.out.size)
                have sz_19 : w_18.heap.size ≤ w_19.heap.size := (hbz).size
                clear hbz
                clear KEA_18 KEB_18 KA_18 KB_18 KEV_18 KV_18 KEQ_18 KQ_18 QB_18
                go_wp2
                go_ret
                exact ⟨rfl, QB_19.out⟩
          · have hPv : P = PE := by rw [HPP.out, if_neg (fun h => h0 h.1)]
            have hPn : ¬ P = 0 := by rw [hPv]; first | exact h0 | decide
            have hvb := HV.out
            rw [putRR_bad (by rw [← HP.out]; exact hPn), ← HP.out, hPv] at hvb
            injection hvb with hvb1 hvb2
            injection hvb1 with h1 h2 h3 h4
            subst h1; subst h2; subst h3; subst h4; subst hvb2
            clear hPn hPv
            have cA_15_0 : w_15.cell? ⟨w.heap.size, 0, none⟩ = some (.int .i64 gt) := KA_15.out.cell 0
            have cA_15_1 : w_15.cell? ⟨w.heap.size, 1, none⟩ = some (.int .i64 gn) := KA_15.out.cell 1
            have cA_15_2 : w_15.cell? ⟨w.heap.size, 2, none⟩ = some (.int .i64 gs) := KA_15.out.cell 2
            have cA_15_3 : w_15.cell? ⟨w.heap.size, 3, none⟩ = some (.slice A rs.length c) := KA_15.out.cell 3
            have zA_15 : w.heap.size < w_15.heap.size := KA_15.out.lt
            obtain ⟨w_16, hww_16⟩ : ∃ w_16 : World, w_16 = w_15.alloc (.cells #[.int .i64 0, .int .i64 0, .int .i64 0, .slice none 0 0] 25) := ⟨_, rfl⟩
            have hbw_16 : Below w_15.heap.size w_15 w_16 := by rw [hww_16]; exact (Below.refl _ _).alloc (by first | exact Nat.le_refl _ | (simp; done) | (simp; omega)) _
            have sqw_16 : w_16.heap.size = w_15.heap.size + 1 := by rw [hww_16]; simp
            have KEA_16 : Hid (Els w_16 S rs A) := Lib.hid (KEA_15.out.below hbw_16)
            have KEB_16 : Hid (Els w_16 S rs2 B) := Lib.hid (KEB_15.out.below hbw_16)
            have KA_16 : Hid (Blk' w_16 (w.heap.size) 25 #[.int .i64 gt, .int .i64 gn, .int .i64 gs, .slice A rs.length c]) := Lib.hid (KA_15.out.below hbw_16 KA_15.out.lt)
            have KB_16 : Hid (Blk' w_16 (w.heap.size + 1) 25 #[.int .i64 ht, .int .i64 hn, .int .i64 hs, .slice B rs2.length d]) := Lib.hid (KB_15.out.below hbw_16 KB_15.out.lt)
            have KEV_16 : Hid (Els w_16 (fun b => b < w_8.heap.size) ([] : List Rule) AV) := Lib.hid (KEV_15.out.below hbw_16)
            have KV_16 : Hid (Blk' w_16 (w_8.heap.size) 25 #[.int .i64 0, .int .i64 0, .int .i64 0, .slice AV ([] : List Rule).length cV]) := Lib.hid (KV_15.out.below hbw_16 KV_15.out.lt)
            have QB_16 : Hid (Below w.heap.size w w_16) := Lib.hid (bthen QB_15.out hbw_16 QB_15.out.size)
            have sz_16 : w_15.heap.size + 1 ≤ w_16.heap.size := by rw [sqw_16]; exact Nat.le_refl _
            have KQ_16 : Hid (Blk' w_16 (w_15.heap.size) 25 #[.int .i64 0, .int .i64 0, .int .i64 0, .slice none 0 0]) := Lib.hid (by rw [hww_16]; exact Blk'.new w_15 _ _)
            have HWw_16 := Lib.hid hww_16
            have SQw_16 := Lib.hid sqw_16
            clear hww_16 hbw_16 sqw_16
            clear KEA_15 KEB_15 KA_15 KB_15 KEV_15 KV_15 QB_15
            go_upto_region 25 with (fail)
            rw [← HWw_16.out]
            clear cA_15_0 cA_15_1 cA_15_2 cA_15_3 zA_15
            have cV_16_0 : w_16.cell? ⟨w_8.heap.size, 0, none⟩ = some (.int .i64 0) := KV_16.out.cell 0
            have cV_16_1 : w_16.cell? ⟨w_8.heap.size, 1, none⟩ = some (.int .i64 0) := KV_16.out.cell 1
            have cV_16_2 : w_16.cell? ⟨w_8.heap.size, 2, none⟩ = some (.int .i64 0) := KV_16.out.cell 2
            have cV_16_3 : w_16.cell? ⟨w_8.heap.size, 3, none⟩ = some (.slice AV ([] : List Rule).length cV) := KV_16.out.cell 3
            have zV_16 : w_8.heap.size < w_16.heap.size := KV_16.out.lt
            have cQ_16_0 : w_16.cell? ⟨w_15.heap.size, 0, none⟩ = some (.int .i64 0) := KQ_16.out.cell 0
            have cQ_16_1 : w_16.cell? ⟨w_15.heap.size, 1, none⟩ = some (.int .i64 0) := KQ_16.out.cell 1
            have cQ_16_2 : w_16.cell? ⟨w_15.heap.size, 2, none⟩ = some (.int .i64 0) := KQ_16.out.cell 2
            have cQ_16_3 : w_16.cell? ⟨w_15.heap.size, 3, none⟩ = some (.slice none 0 0) := KQ_16.out.cell 3
            have zQ_16 : w_15.heap.size < w_16.heap.size := KQ_16.out.lt
            go_wp2_with fail
            refine (same_true zeroG zeroG AV none cV 0 (fun _ => True) (fun _ => True) _ rfl ⟨by simp [zeroG], hcV⟩ ⟨by simp [zeroG], by omega⟩ (fun h => absurd rfl h) (fun h => absurd rfl h)).mono ?_
            rintro e w_17 ⟨rfl, hbz⟩
            clear cV_16_0 cV_16_1 cV_16_2 cV_16_3 zV_16 cQ_16_0 cQ_16_1 cQ_16_2 cQ_16_3 zQ_16
            have KEA_17 : Hid (Els w_17 S rs A) := Lib.hid (KEA_16.out.below hbz)
            have KEB_17 : Hid (Els w_17 S rs2 B) := Lib.hid (KEB_16.out.below hbz)
            have KA_17 : Hid (Blk' w_17 (w.heap.size) 25 #[.int .i64 gt, .int .i64 gn, .int .i64 gs, .slice A rs.length c]) := Lib.hid (KA_16.out.below hbz KA_16.out.lt)
            have KB_17 : Hid (Blk' w_17 (w.heap.size + 1) 25 #[.int .i64 ht, .int .i64 hn, .int .i64 hs, .slice B rs2.length d]) := Lib.hid (KB_16.out.below hbz KB_16.out.lt)
            have KEV_17 : Hid (Els w_17 (fun b => b < w_8.heap.size) ([] : List Rule) AV) := Lib.hid (KEV_16.out.below hbz)
            have KV_17 : Hid (Blk' w_17 (w_8.heap.size) 25 #[.int .i64 0, .int .i64 0, .int .i64 0, .slice AV ([] : List Rule).length cV]) := Lib.hid (KV_16.out.below hbz KV_16.out.lt)
            have KQ_17 : Hid (Blk' w_17 (w_15.heap.size) 25 #[.int .i64 0, .int .i64 0, .int .i64 0, .slice none 0 0]) := Lib.hid (KQ_16.out.below hbz KQ_16.out.lt)
            have QB_17 : Hid (Below w.heap.size w w_17) := Lib.hid (bthen QB_16.out hbz QB_16.out.size)
            have sz_17 : w_16.heap.size ≤ w_17.heap.size := (hbz).size
            clear hbz
            clear KEA_16 KEB_16 KA_16 KB_16 KEV_16 KV_16 KQ_16 QB_16
            go_wp2
            go_ret
            exact ⟨rfl, QB_17.out⟩
    · skip
      have hub := HU.out
      rw [revRR_bad (by rw [← HE.out]; exact hE0), ← HE.out] at hub
      injection hub with hub1 hub2
      injection hub1 with h1 h2 h3 h4
      subst h1; subst h2; subst h3; subst h4; subst hub2
      have hvb := HV.out
      rw [putRR_inv (by rw [← HE.out]; exact hE0), ← HE.out] at hvb
      injection hvb with hvb1 hvb2
      injection hvb1 with h1 h2 h3 h4
      subst h1; subst h2; subst h3; subst h4; subst hvb2
      have cU_11_0 : w_11.cell? ⟨w_6.heap.size, 0, none⟩ = some (.int .i64 0) := KU_11.out.cell 0
      have cU_11_1 : w_11.cell? ⟨w_6.heap.size, 1, none⟩ = some (.int .i64 0) := KU_11.out.cell 1
      have cU_11_2 : w_11.cell? ⟨w_6.heap.size, 2, none⟩ = some (.int .i64 0) := KU_11.out.cell 2
      have cU_11_3 : w_11.cell? ⟨w_6.heap.size, 3, none⟩ = some (.slice AU ([] : List Rule).length cU) := KU_11.out.cell 3
      have zU_11 : w_6.heap.size < w_11.heap.size := KU_11.out.lt
      have cV_11_0 : w_11.cell? ⟨w_8.heap.size, 0, none⟩ = some (.int .i64 0) := KV_11.out.cell 0
      have cV_11_1 : w_11.cell? ⟨w_8.heap.size, 1, none⟩ = some (.int .i64 0) := KV_11.out.cell 1
      have cV_11_2 : w_11.cell? ⟨w_8.heap.size, 2, none⟩ = some (.int .i64 0) := KV_11.out.cell 2
      have cV_11_3 : w_11.cell? ⟨w_8.heap.size, 3, none⟩ = some (.slice AV ([] : List Rule).length cV) := KV_11.out.cell 3
      have zV_11 : w_8.heap.size < w_11.heap.size := KV_11.out.lt
      go_wp2_with fail
      refine (same_true zeroG zeroG AU none cU 0 (fun _ => True) (fun _ => True) _ rfl ⟨by simp [zeroG], hcU⟩ ⟨by simp [zeroG], by omega⟩ (fun h => absurd rfl h) (fun h => absurd rfl h)).mono ?_
      rintro e w_12 ⟨rfl, hbz⟩
      clear cU_11_0 cU_11_1 cU_11_2 cU_11_3 zU_11 cV_11_0 cV_11_1 cV_11_2 cV_11_3 zV_11
      have KEA_12 : Hid (Els w_12 S rs A) := Lib.hid (KEA_11.out.below hbz)
      have KEB_12 : Hid (Els w_12 S rs2 B) := Lib.hid (KEB_11.out.below hbz)
      have KA_12 : Hid (Blk' w_12 (w.heap.size) 25 #[.int .i64 gt, .int .i64 gn, .int .i64 gs, .slice A rs.length c]) := Lib.hid (KA_11.out.below hbz KA_11.out.lt)
      have KB_12 : Hid (Blk' w_12 (w.heap.size + 1) 25 #[.int .i64 ht, .int .i64 hn, .int .i64 hs, .slice B rs2.length d]) := Lib.hid (KB_11.out.below hbz KB_11.out.lt)
      have KEU_12 : Hid (Els w_12 (fun b => b < w_6.heap.size) ([] : List Rule) AU) := Lib.hid (KEU_11.out.below hbz)
      have KU_12 : Hid (Blk' w_12 (w_6.heap.size) 25 #[.int .i64 0, .int .i64 0, .int .i64 0, .slice AU ([] : List Rule).length cU]) := Lib.hid (KU_11.out.below hbz KU_11.out.lt)
      have KEV_12 : Hid (Els w_12 (fun b => b < w_8.heap.size) ([] : List Rule) AV) := Lib.hid (KEV_11.out.below hbz)
      have KV_12 : Hid (Blk' w_12 (w_8.heap.size) 25 #[.int .i64 0, .int .i64 0, .int .i64 0, .slice AV ([] : List Rule).length cV]) := Lib.hid (KV_11.out.below hbz KV_11.out.lt)
      have QB_12 : Hid (Below w.heap.size w w_12) := Lib.hid (bthen QB_11.out hbz QB_11.out.size)
      have sz_12 : w_11.heap.size ≤ w_12.heap.size := (hbz).size
      clear hbz
      clear KEA_11 KEB_11 KA_11 KB_11 KEU_11 KU_11 KEV_11 KV_11 QB_11
      have cV_12_0 : w_12.cell? ⟨w_8.heap.size, 0, none⟩ = some (.int .i64 0) := KV_12.out.cell 0
      have cV_12_1 : w_12.cell? ⟨w_8.heap.size, 1, none⟩ = some (.int .i64 0) := KV_12.out.cell 1
      have cV_12_2 : w_12.cell? ⟨w_8.heap.size, 2, none⟩ = some (.int .i64 0) := KV_12.out.cell 2
      have cV_12_3 : w_12.cell? ⟨w_8.heap.size, 3, none⟩ = some (.slice AV ([] : List Rule).length cV) := KV_12.out.cell 3
      have zV_12 : w_8.heap.size < w_12.heap.size := KV_12.out.lt
      go_wp2_with fail
      refine (same_true zeroG zeroG AV none cV 0 (fun _ => True) (fun _ => True) _ rfl ⟨by simp [zeroG], hcV⟩ ⟨by simp [zeroG], by omega⟩ (fun h => absurd rfl h) (fun h => absurd rfl h)).mono ?_
      rintro e w_13 ⟨rfl, hbz⟩
      clear cV_12_0 cV_12_1 cV_12_2 cV_12_3 zV_12
      have KEA_13 : Hid (Els w_13 S rs A) := Lib.hid (KEA_12.out.below hbz)
      have KEB_13 : Hid (Els w_13 S rs2 B) := Lib.hid (KEB_12.out.below hbz)
      have KA_13 : Hid (Blk' w_13 (w.heap.size) 25 #[.int .i64 gt, .int .i64 gn, .int .i64 gs, .slice A rs.length c]) := Lib.hid (KA_12.out.below hbz KA_12.out.lt)
      have KB_13 : Hid (Blk' w_13 (w.heap.size + 1) 25 #[.int .i64 ht, .int .i64 hn, .int .i64 hs, .slice B rs2.length d]) := Lib.hid (KB_12.out.below hbz KB_12.out.lt)
      have KEU_13 : Hid (Els w_13 (fun b => b < w_6.heap.size) ([] : List Rule) AU) := Lib.hid (KEU_12.out.below hbz)
      have KU_13 : Hid (Blk' w_13 (w_6.heap.size) 25 #[.int .i64 0, .int .i64 0, .int .i64 0, .slice AU ([] : List Rule).length cU]) := Lib.hid (KU_12.out.below hbz KU_12.out.lt)
      have KEV_13 : Hid (Els w_13 (fun b => b < w_8.heap.size) ([] : List Rule) AV) := Lib.hid (KEV_12.out.below hbz)
      have KV_13 : Hid (Blk' w_13 (w_8.heap.size) 25 #[.int .i64 0, .int .i64 0, .int .i64 0, .slice AV ([] : List Rule).length cV]) := Lib.hid (KV_12.out.below hbz KV_12.out.lt)
      have QB_13 : Hid (Below w.heap.size w w_13) := Lib.hid (bthen QB_12.out hbz QB_12.out.size)
      have sz_13 : w_12.heap.size ≤ w_13.heap.size := (hbz).size
      clear hbz
      clear KEA_12 KEB_12 KA_12 KB_12 KEU_12 KU_12 KEV_12 KV_12 QB_12
      go_wp2
      go_ret
      exact ⟨rfl, QB_13.out⟩

theorem closedPuts_row (g h : Gram) (x : Int) (t : Tree) (v0 v1 v2 v3 : Value) (W : World) (h0 : Vl W (OldS W) g v0) (h1 : Vl W (OldS W) h v1) (h2 : Vl W (OldS W) x v2) (h3 : Vl W (OldS W) t v3) (hk : Blk.blk g + Blk.blk h + Blk.blk x + Blk.blk t ≤ 1048576) :
    Calls Tryd.prog 5 #[v0, v1, v2, v3] W fun e W' => e = .returned (.bool true) ∧ Below W.heap.size W W' := by
  obtain ⟨s, rfl, i0, i1, i2, hs⟩ := h0.gram
  obtain ⟨s1, rfl, k0, k1, k2, hs1⟩ := h1.gram
  obtain ⟨rfl, hx⟩ := h2.int
  obtain ⟨s', rfl, j0, j1, hs'⟩ := h3.tree
  obtain ⟨A, c, rfl, hl, hc, hA⟩ := hs.slice
  obtain ⟨B, d, rfl, hld, hd, hB⟩ := hs1.slice
  obtain ⟨C, f, rfl, hlf, hf, hC⟩ := hs'.slice
  have hn := nodes_blk t
  have hb : Blk.blk t = blkTree t := rfl
  exact closedPuts_any (fun S t B d w a1 a2 a3 a4 a5 a6 a7 => mirror_any t S B d w a1 a2 a3 a4 a5 a6 a7) g h x t A B C c d f (OldS W) W ⟨i0, i1, i2⟩ ⟨k0, k1, k2⟩ hl hc hA hld hd hB j0 j1 hlf hf hC (by omega) (fun b hb => hb)
end Go.Proofs.YtaidadjekfcacaaDoor
