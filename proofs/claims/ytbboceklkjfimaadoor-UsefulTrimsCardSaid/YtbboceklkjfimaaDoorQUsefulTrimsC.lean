/- The walk of the law UsefulTrims. -/
import Derived.Test.YtbboceklkjfimaaDoorQTrimBad
import Derived.Test.YtbboceklkjfimaaDoorQp1
import Derived.Test.YtbboceklkjfimaaDoorQRename
import Derived.Test.YtbboceklkjfimaaDoorQGramErr
import Derived.Test.YtbboceklkjfimaaDoorQSimple
import Derived.Test.YtbboceklkjfimaaDoorQSame
import Derived.Test.YtbboceklkjfimaaDoorQEqInt
import Derived.Test.YtbboceklkjfimaaDoorQFstP
import Derived.Deep.QuietTactic
import Derived.BigQuiet
namespace Go.Proofs.YtbboceklkjfimaaDoor
open Go.RowKit
set_option linter.unusedVariables false

theorem simple_in : RulesIn simpleG 1 := by
  intro q hq
  simp [simpleG] at hq
  rcases hq with rfl | rfl <;> simp
theorem simple_len {l : List Int} (h : LFix simpleG 1 l) : l = [0] := by
  have h1 := h.shape.len
  have h2 : Nul simpleG 0 := .of (g := simpleG) (q := ⟨0, []⟩) (by simp [simpleG]) (by simp)
  have h3 := (h.nul simple_in (x := 0) (by omega)).2 h2
  match l, h1 with
  | [a], _ => simp at h3; rw [h3]
theorem simple_set {l : List Int} {s : List Bool} (h : TrimS simpleG 1 l s) : l = [0] ∧ s = [true] := by
  refine ⟨simple_len h.lens, ?_⟩
  have h1 := h.reach.len
  have h2 := h.reach.start
  match s, h1 with
  | [a], _ => simp [simpleG] at h2; rw [h2]
theorem simple_trim : trimG simpleG [0] [true] = simpleG ∧ trueFrom 0 [true] = [0] ∧ whereFrom (stayB [0] [true]) 0 simpleG.rules = [0, 1] := by
  refine ⟨?_, rfl, ?_⟩ <;> decide +kernel
theorem i64_zero : I64 0 := ⟨by omega, by omega⟩

theorem eq_trueI (A A' : Option Addr) (xs : List Int) (n n' c c' : Nat) (S S' : Nat → Prop) (w : World) (hn : n = xs.length) (hn' : n' = xs.length) (hm : xs.length ≤ 9223372036854775807) (hA : Els w S xs A) (hA' : Els w S' xs A') :
    Calls Tryd.prog 32 #[.slice A n c, .slice A' n' c'] w fun e w' => e = .returned (.bool true) ∧ Below w.heap.size w w' :=
  (equalInt_any A A' xs xs n n' c c' S S' w hn hn' hm hm hA hA').mono fun e w' ⟨h1, h2⟩ => ⟨by rw [h1]; simp, h2⟩
def ZeroG : Gram := ⟨0, 0, 0, []⟩

set_option maxRecDepth 100000 in
set_option maxHeartbeats 4000000 in
theorem usefulTrims_any (g : Gram) (A : Option Addr) (c : Nat) (S : Nat → Prop) (w : World) (h64 : I64 g.terms ∧ I64 g.nons ∧ I64 g.start) (hlc : g.rules.length ≤ c) (hc : c ≤ 9223372036854775807) (hA : Els w S g.rules A) (hS : ∀ b, S b → b < w.heap.size) :
    Calls Tryd.prog 5 #[.agg #[.int .i64 g.terms, .int .i64 g.nons, .int .i64 g.start, .slice A g.rules.length c]] w fun e w' => e = .returned (.bool true) ∧ Below w.heap.size w w' := by
  obtain ⟨gt, gn, gs, rs⟩ := g
  dsimp only at *
  have hba : Below w.heap.size w (w.alloc (.cells #[.int .i64 gt, .int .i64 gn, .int .i64 gs, .slice A rs.length c] 35)) := (Below.refl _ _).alloc (Nat.le_refl _) _
  have HB0 := Lib.hid hba
  have HG0 := Lib.hid (Blk'.new w 35 #[.int .i64 gt, .int .i64 gn, .int .i64 gs, .slice A rs.length c])
  have HA := Lib.hid hA
  have HS := Lib.hid hS
  have H64 := Lib.hid h64
  clear hba hA hS h64
  go_enter Tryd.func5, Tryd.ntmps5
  go_wp2_with fail
  refine (simple_any _).mono ?_
  rintro e w1 ⟨As, rfl, hEs, hb1⟩
  have HEs := Lib.hid hEs
  have HB1 := Lib.hid (bthen HB0.out hb1 (by simp))
  have HG1 := Lib.hid (HG0.out.below hb1 HG0.out.lt)
  clear hEs hb1
  go_wp2_with fail
  refine (trim_any simpleG 1 As 2 _ w1 rfl simpleC (by decide) (by decide) HEs.out (fun b hb => hb.2)).mono ?_
  rintro e w2 hret
  rcases hret with ⟨l, s, vg, vn, vr, hts, rfl, hvg, hvn, hvr, hb2⟩ | ⟨l, hfix, hneg, _, _⟩
  rotate_left
  · exfalso
    rw [simple_len hfix] at hneg
    simp [simpleG] at hneg
  obtain ⟨rfl, rfl⟩ := simple_set hts
  rw [simple_trim.1] at hvg
  rw [simple_trim.2.1] at hvn
  rw [simple_trim.2.2] at hvr
  obtain ⟨Ah, ch, rfl, hh1, hh2, hAh⟩ : ∃ Ah ch, vg = .agg #[.int .i64 1, .int .i64 1, .int .i64 0, .slice Ah 2 ch] ∧ 2 ≤ ch ∧ ch ≤ 9223372036854775807 ∧ Els w2 (fun b => w1.heap.size ≤ b ∧ b < w2.heap.size) simpleG.rules Ah := by
    obtain ⟨sg, e, _, _, _, hsg⟩ := hvg.gram
    obtain ⟨Ah, ch, e2, k1, k2, k3⟩ := hsg.slice
    exact ⟨Ah, ch, by rw [e, e2]; rfl, k1, k2, k3⟩
  obtain ⟨Ar, cr, rfl⟩ : ∃ Ar cr, vr = .slice Ar 2 cr := by obtain ⟨a, b, e, _⟩ := hvr.form; exact ⟨a, b, e⟩
  obtain ⟨An, cn, rfl⟩ : ∃ An cn, vn = .slice An 1 cn := by obtain ⟨a, b, e, _⟩ := hvn.form; exact ⟨a, b, e⟩
  have HB2 := Lib.hid (bthen HB1.out hb2 HB1.out.size)
  have HG2 := Lib.hid (HG1.out.below hb2 HG1.out.lt)
  obtain ⟨w3, hw3⟩ : ∃ w3 : World, w3 = w2.alloc (.cells #[.int .i64 1, .int .i64 1, .int .i64 0, .slice Ah 2 ch] 35) := ⟨_, rfl⟩
  have hb3 : Below w2.heap.size w2 w3 := by rw [hw3]; exact (Below.refl _ _).alloc (Nat.le_refl _) _
  have HB3 := Lib.hid (bthen HB2.out hb3 HB2.out.size)
  have hG3 := HG2.out.below hb3 HG2.out.lt
  have HG3 := Lib.hid hG3
  have hH3 : Blk' w3 w2.heap.size 35 #[.int .i64 1, .int .i64 1, .int .i64 0, .slice Ah 2 ch] := by rw [hw3]; exact Blk'.new _ _ _
  have HAh := Lib.hid ((hAh.keep (S' := fun b => b < w2.heap.size) (fun _ _ _ => rfl) (fun b hb => hb.2)).below hb3)
  have h0 : w3.cell? ⟨w2.heap.size, 0, none⟩ = some (.int .i64 1) := hH3.cell 0
  have h1 : w3.cell? ⟨w2.heap.size, 1, none⟩ = some (.int .i64 1) := hH3.cell 1
  have h2 : w3.cell? ⟨w2.heap.size, 2, none⟩ = some (.int .i64 0) := hH3.cell 2
  have h3 : w3.cell? ⟨w2.heap.size, 3, none⟩ = some (.slice Ah 2 ch) := hH3.cell 3
  have zh : w2.heap.size < w3.heap.size := hH3.lt
  have zG : w.heap.size < w3.heap.size := hG3.lt
  have HW3 := Lib.hid hw3
  clear hts hvg hvn hvr hb2 hw3 hb3 hG3 hH3 hAh
  go_upto_region 2 with (fail)
  rw [← HW3.out]
  go_region_held3 (fun w' => w'.cell? ⟨w2.heap.size, 0, none⟩ = some (.int .i64 1) ∧ w'.cell? ⟨w2.heap.size, 1, none⟩ = some (.int .i64 1) ∧ w'.cell? ⟨w2.heap.size, 2, none⟩ = some (.int .i64 0) ∧ w'.cell? ⟨w2.heap.size, 3, none⟩ = some (.slice Ah 2 ch)) (go_keep)
    (first
    | (go_at_call 16
       refine (simple_any _).mono ?_
       rintro e w4 ⟨As4, rfl, hEs4, hb4⟩
       have HEs4 := Lib.hid hEs4
       have H4 := Lib.hid (((Below.refl w3.heap.size w3).drew).trans hb4)
       have m0 := (H4.out.cell (p := ⟨w2.heap.size, 0, none⟩) zh).trans h0
       have m1 := (H4.out.cell (p := ⟨w2.heap.size, 1, none⟩) zh).trans h1
       have m2 := (H4.out.cell (p := ⟨w2.heap.size, 2, none⟩) zh).trans h2
       have m3 := (H4.out.cell (p := ⟨w2.heap.size, 3, none⟩) zh).trans h3
       clear hEs4 hb4)
    | (go_at_call 29
       refine (sameGram_any simpleG simpleG Ah As4 ch 2 _ _ _ ⟨hh1, hh2⟩ ⟨by decide, by decide⟩ (HAh.out.below H4.out) HEs4.out).mono ?_
       rintro e w5 ⟨rfl, hb5⟩
       rw [decide_eq_true rfl]
       have H5 := Lib.hid (bthen H4.out hb5 H4.out.size)
       have n0 := (H5.out.cell (p := ⟨w2.heap.size, 0, none⟩) zh).trans h0
       have n1 := (H5.out.cell (p := ⟨w2.heap.size, 1, none⟩) zh).trans h1
       have n2 := (H5.out.cell (p := ⟨w2.heap.size, 2, none⟩) zh).trans h2
       have n3 := (H5.out.cell (p := ⟨w2.heap.size, 3, none⟩) zh).trans h3
       clear hb5))
  have H5G := Lib.hid (HG3.out.below H5.out zG)
  have HB5 := Lib.hid (bthen HB3.out H5.out HB3.out.size)
  have g0 : w5.cell? ⟨w.heap.size, 0, none⟩ = some (.int .i64 gt) := H5G.out.cell 0
  have g1 : w5.cell? ⟨w.heap.size, 1, none⟩ = some (.int .i64 gn) := H5G.out.cell 1
  have g2 : w5.cell? ⟨w.heap.size, 2, none⟩ = some (.int .i64 gs) := H5G.out.cell 2
  have g3 : w5.cell? ⟨w.heap.size, 3, none⟩ = some (.slice A rs.length c) := H5G.out.cell 3
  have zG5 : w.heap.size < w5.heap.size := H5G.out.lt
  clear h0 h1 h2 h3 m0 m1 m2 m3 n0 n1 n2 n3 H4 HEs4 HAh HG3 HB3 HW3 HG2 HB2 HG1 HB1 HG0 HB0 HEs H5
  by_cases hce : checkI ⟨gt, gn, gs, rs⟩ = 0
  · have hv := validG_of hce
    obtain ⟨n, hn⟩ : ∃ n : Nat, gn = (n : Int) := ⟨gn.toNat, by have := hv.n1; dsimp only at this; omega⟩
    subst hn
    have hri := hv.rulesIn rfl
    have HV := Lib.hid hv
    have HRI := Lib.hid hri
    have HC := Lib.hid hce
    clear hv hri hce
    obtain ⟨s0, hs⟩ : ∃ s0 : Nat, gs = (s0 : Int) := ⟨gs.toNat, by have := HV.out.s0; dsimp only at this; omega⟩
    subst hs
    have hs0 : s0 < n := by have := HV.out.s1; dsimp only at this; omega
    have hs9 : (s0 : Int) < (n : Int) := by omega
    have hn10 : n ≤ 10 := by have := HV.out.n10; dsimp only at this; omega
    have HN : Hid (1 ≤ n ∧ n ≤ 10) := Lib.hid (by omega)
    have HGs : Hid (0 ≤ (s0 : Int) ∧ ((s0 : Int)).toNat < n) := Lib.hid (by omega)
    have HRl : Hid (rs.length ≤ 1000) := Lib.hid (by have := HV.out.len; dsimp only at this; omega)
    go_wp2_with fail
    refine (trim_any ⟨gt, (n : Int), (s0 : Int), rs⟩ n A c S _ rfl HC.out hlc hc (HA.out.belowB HB5.out HS.out) (fun b hb => by have := HS.out b hb; have := HB5.out.size; omega)).mono ?_
    rintro e w6 hret
    rcases hret with ⟨l, s, vg, vn, vr, hts, rfl, hvg, hvn, hvr, hb6⟩ | ⟨l, hfix, hneg, rfl, hb6⟩
    · have HTS := Lib.hid hts
      have HFx := Lib.hid hts.lens
      have HLl := Lib.hid hts.lens.shape.len
      obtain ⟨ls, hls⟩ := get_some (show s0 < l.length by rw [HLl.out]; exact hs0)
      have HLs := Lib.hid hls
      have hls0 : ¬ ls < 0 := by
        have h := hts.pos
        dsimp only at h
        rw [show ((s0 : Int)).toNat = s0 from by omega, List.getD_eq_getElem?_getD, hls] at h
        simp at h
        omega
      obtain ⟨h, hh⟩ : ∃ h, h = trimG ⟨gt, (n : Int), (s0 : Int), rs⟩ l s := ⟨_, rfl⟩
      rw [← hh] at hvg
      have HH := Lib.hid hh
      obtain ⟨ht, hn, hs, hrs⟩ := h
      obtain ⟨sg, rfl, _, _, _, hsg⟩ := hvg.gram
      obtain ⟨Ag, cg, rfl, hg1, hg2, hAg⟩ := hsg.slice
      dsimp only at hg1 hAg
      obtain ⟨ns, hns⟩ : ∃ ns, ns = trueFrom 0 s := ⟨_, rfl⟩
      obtain ⟨rus, hrus⟩ : ∃ rus, rus = whereFrom (stayB l s) 0 rs := ⟨_, rfl⟩
      have hnl : ns.length ≤ 1000 := by rw [hns, trueFrom_len]; have := List.count_le_length (a := true) (l := s); have := hts.reach.len; omega
      have hrl : rus.length ≤ 1000 := by rw [hrus]; have := whereFrom_len (stayB l s) 0 rs; have := HRl.out; omega
      dsimp only at hvr
      rw [← hns] at hvn
      rw [← hrus] at hvr
      have HNs := Lib.hid hns
      have HRu := Lib.hid hrus
      obtain ⟨Bn, dn, eB, hn1, hn2, _⟩ := hvn.form
      obtain ⟨Br, dr, eB2, hr1, hr2, _⟩ := hvr.form
      subst eB; subst eB2
      have hba7 : Below w6.heap.size w6 (w6.alloc (.cells #[.int .i64 ht, .int .i64 hn, .int .i64 hs, .slice Ag hrs.length cg] 35)) := (Below.refl _ _).alloc (Nat.le_refl _) _
      obtain ⟨w7, hw7⟩ : ∃ w7 : World, w7 = w6.alloc (.cells #[.int .i64 ht, .int .i64 hn, .int .i64 hs, .slice Ag hrs.length cg] 35) := ⟨_, rfl⟩
      have hb7 : Below w6.heap.size w6 w7 := by rw [hw7]; exact hba7
      have HVn := Lib.hid (((hvn.vl.els).2.2.2.keep (S' := fun b => b < w6.heap.size) (fun _ _ _ => rfl) (fun b hb => hb.2)).below hb7)
      have HVr := Lib.hid (((hvr.vl.els).2.2.2.keep (S' := fun b => b < w6.heap.size) (fun _ _ _ => rfl) (fun b hb => hb.2)).below hb7)
      have HAg := Lib.hid ((hAg.keep (S' := fun b => b < w6.heap.size) (fun _ _ _ => rfl) (fun b hb => hb.2)).below hb7)
      have HB7 := Lib.hid (bthen (bthen HB5.out hb6 HB5.out.size) hb7 (by have := HB5.out.size; have := hb6.size; omega))
      have hG7 := (H5G.out.below hb6 H5G.out.lt).below hb7 (H5G.out.below hb6 H5G.out.lt).lt
      have HG7 := Lib.hid hG7
      have HH7 : Hid (Blk' w7 w6.heap.size 35 #[.int .i64 ht, .int .i64 hn, .int .i64 hs, .slice Ag hrs.length cg]) := Lib.hid (by rw [hw7]; exact Blk'.new _ _ _)
      have HW7 := Lib.hid hw7
      have j0 : w7.cell? ⟨w.heap.size, 0, none⟩ = some (.int .i64 gt) := hG7.cell 0
      have j1 : w7.cell? ⟨w.heap.size, 1, none⟩ = some (.int .i64 (n : Int)) := hG7.cell 1
      have j2 : w7.cell? ⟨w.heap.size, 2, none⟩ = some (.int .i64 (s0 : Int)) := hG7.cell 2
      have j3 : w7.cell? ⟨w.heap.size, 3, none⟩ = some (.slice A rs.length c) := hG7.cell 3
      have zG7 := hG7.lt
      clear g0 g1 g2 g3 hb6 hw7 hb7 hba7 hG7 hls hts hvg hvn hvr hsg hAg hh hns hrus
      go_upto_region 5 with (fail)
      rw [← HW7.out]
      go_wp2_with fail
      refine (gramErr_any ⟨gt, (n : Int), (s0 : Int), rs⟩ A c S _ H64.out hlc hc (HA.out.belowB HB7.out HS.out) (fun b hb => by have := HS.out b hb; have := HB7.out.size; omega)).mono ?_
      rintro e w8 ⟨rfl, hb8⟩
      rw [HC.out]
      have HB8 := Lib.hid (bthen HB7.out hb8 HB7.out.size)
      have hG8 := HG7.out.below hb8 HG7.out.lt
      have HG8 := Lib.hid hG8
      have HH8 := Lib.hid (HH7.out.below hb8 HH7.out.lt)
      have HAg8 := Lib.hid (HAg.out.below hb8)
      have HVn8 := Lib.hid (HVn.out.below hb8)
      have HVr8 := Lib.hid (HVr.out.below hb8)
      have k0 : w8.cell? ⟨w.heap.size, 0, none⟩ = some (.int .i64 gt) := hG8.cell 0
      have k1 : w8.cell? ⟨w.heap.size, 1, none⟩ = some (.int .i64 (n : Int)) := hG8.cell 1
      have k2 : w8.cell? ⟨w.heap.size, 2, none⟩ = some (.int .i64 (s0 : Int)) := hG8.cell 2
      have k3 : w8.cell? ⟨w.heap.size, 3, none⟩ = some (.slice A rs.length c) := hG8.cell 3
      have zG8 := hG8.lt
      clear hb8 hG8 j0 j1 j2 j3
      go_wp2_with fail
      refine wp_region_noPanic ?_
      refine wp_region_held_drew (S := (fun w' => w'.cell? ⟨w.heap.size, 0, none⟩ = some (.int .i64 gt) ∧ w'.cell? ⟨w.heap.size, 1, none⟩ = some (.int .i64 (n : Int)) ∧ w'.cell? ⟨w.heap.size, 2, none⟩ = some (.int .i64 (s0 : Int)) ∧ w'.cell? ⟨w.heap.size, 3, none⟩ = some (.slice A rs.length c))) (by kernel_rfl) ?hq (fun hHeld => ?bq)
      case hq => ((try dsimp only); go_keep)
      refine take_run (i := 0) (v := ?vq0) rfl (by kernel_rfl) (by kernel_rfl) (by kernel_rfl) (fun _ _ _ h => h) (by rfl) ?yq0 (by assumption) ?rq0
      case yq0 => (intro w hSw; (try dsimp only at hSw); go_simp; try with_reducible rfl)
      try simp only [Act.put, List.setIfInBounds_toArray, List.set_cons_zero, List.set_cons_succ]
      refine take_run (i := 1) (v := ?vq1) rfl (by kernel_rfl) (by kernel_rfl) (by kernel_rfl) (fun _ _ _ h => h) (by rfl) ?yq1 (by assumption) ?rq1
      case yq1 => (intro w hSw; (try dsimp only at hSw); go_simp; try with_reducible rfl)
      try simp only [Act.put, List.setIfInBounds_toArray, List.set_cons_zero, List.set_cons_succ]
      refine take_run (i := 2) (v := ?vq2) rfl (by kernel_rfl) (by kernel_rfl) (by kernel_rfl) (fun _ _ _ h => h) (by rfl) ?yq2 (by assumption) ?rq2
      case yq2 => (intro w hSw; (try dsimp only at hSw); go_simp; try with_reducible rfl)
      try simp only [Act.put, List.setIfInBounds_toArray, List.set_cons_zero, List.set_cons_succ]
      refine take_run (i := 3) (v := ?vq3) rfl (by kernel_rfl) (by kernel_rfl) (by kernel_rfl) (fun _ _ _ h => h) (by rfl) ?yq3 (by assumption) ?rq3
      case yq3 => (intro w hSw; (try dsimp only at hSw); go_simp; try with_reducible rfl)
      try simp only [Act.put, List.setIfInBounds_toArray, List.set_cons_zero, List.set_cons_succ]
      refine take_run (i := 5) (v := ?vq5) rfl (by kernel_rfl) (by kernel_rfl) (by kernel_rfl) (fun _ _ _ h => h) (by rfl) ?yq5 (by assumption) ?rq5
      case yq5 => (intro w hSw; (try dsimp only at hSw); go_simp; try with_reducible rfl)
      try simp only [Act.put, List.setIfInBounds_toArray, List.set_cons_zero, List.set_cons_succ]
      refine take_run (i := 6) (v := ?vq6) rfl (by kernel_rfl) (by kernel_rfl) (by kernel_rfl) (fun _ _ _ h => h) (by rfl) ?yq6 (by assumption) ?rq6
      case yq6 => (intro w hSw; (try dsimp only at hSw); go_simp; try with_reducible rfl)
      try simp only [Act.put, List.setIfInBounds_toArray, List.set_cons_zero, List.set_cons_succ]
      refine take_call (i := 4) rfl (by kernel_rfl) (by rfl) (fun K hK => ?_)
      go_simp
      go_at_call 30
      refine (rlengths_any ⟨gt, (n : Int), (s0 : Int), rs⟩ n A c S _ l rfl HN.out hlc hc (HA.out.belowB HB8.out.drew HS.out) (fun b hb => by have := HS.out b hb; have := HB8.out.size; simp; omega) HRl.out HRI.out HFx.out).mono ?_
      rintro e w9 ⟨Lb, cl, z, rfl, hLb, hcl1, hcl2, hLge, hb9⟩
      have H9 := Lib.hid (((Below.refl w8.heap.size w8).drew).trans hb9)
      have p0 := (H9.out.cell (p := ⟨w.heap.size, 0, none⟩) zG8).trans k0
      have p1 := (H9.out.cell (p := ⟨w.heap.size, 1, none⟩) zG8).trans k1
      have p2 := (H9.out.cell (p := ⟨w.heap.size, 2, none⟩) zG8).trans k2
      have p3 := (H9.out.cell (p := ⟨w.heap.size, 3, none⟩) zG8).trans k3
      have cL : w9.cell? ⟨Lb, s0, none⟩ = some (.int .i64 ls) := (hLb.cell _).trans ((slack_get (by rw [icells_size, HLl.out]; exact hs0)).trans (icells_get HLs.out))
      have zL := hLb.lt
      clear hLb hb9
      refine hK.out _ _ ?hq4 (fun hHeld => ?rq4)
      case hq4 => ((try dsimp only); go_keep)
      clear hK K
      try simp only [Act.put, List.setIfInBounds_toArray, List.set_cons_zero, List.set_cons_succ]
      refine take_run (i := 7) (v := ?vq7) rfl (by kernel_rfl) (by kernel_rfl) (by kernel_rfl) (fun _ _ _ h => h) (by rfl) ?yq7 (by assumption) ?rq7
      case yq7 => (intro w hSw; (try dsimp only at hSw); go_simp; try with_reducible rfl)
      try simp only [Act.put, List.setIfInBounds_toArray, List.set_cons_zero, List.set_cons_succ]
      refine take_call (i := 8) rfl (by kernel_rfl) (by rfl) (fun K hK => ?_)
      go_simp
      refine hK.out _ _ ?hq8 (fun hHeld => ?rq8)
      case hq8 => ((try dsimp only); go_keep)
      clear hK K
      try simp only [Act.put, List.setIfInBounds_toArray, List.set_cons_zero, List.set_cons_succ]
      refine take_run (i := 9) (v := ?vq9) rfl (by kernel_rfl) (by kernel_rfl) (by kernel_rfl) (fun _ _ _ h => h) (by rfl) ?yq9 (by assumption) ?rq9
      case yq9 => (intro w hSw; (try dsimp only at hSw); go_simp; try with_reducible rfl)
      try simp only [Act.put, List.setIfInBounds_toArray, List.set_cons_zero, List.set_cons_succ]
      refine take_run (i := 10) (v := ?vq10) rfl (by kernel_rfl) (by kernel_rfl) (by kernel_rfl) (fun _ _ _ h => h) (by rfl) ?yq10 (by assumption) ?rq10
      case yq10 => (intro w hSw; (try dsimp only at hSw); go_simp; try with_reducible rfl)
      try simp only [Act.put, List.setIfInBounds_toArray, List.set_cons_zero, List.set_cons_succ]
      refine wpAnyH_done (by kernel_rfl) ?_ _
      refine NoPanic.normal ?_
      have hG9 := HG8.out.below H9.out HG8.out.lt
      have HG9 := Lib.hid hG9
      have HH9 := Lib.hid (HH8.out.below H9.out HH8.out.lt)
      have HAg9 := Lib.hid (HAg8.out.below H9.out)
      have HVn9 := Lib.hid (HVn8.out.below H9.out)
      have HVr9 := Lib.hid (HVr8.out.below H9.out)
      have HB9 := Lib.hid (bthen HB8.out H9.out HB8.out.size)
      have zG9 := hG9.lt
      clear k0 k1 k2 k3 cL hG9 H9
      go_wp2_with fail
      refine (rtrimOf_any ⟨gt, (n : Int), (s0 : Int), rs⟩ n A c S _ l rfl HN.out HGs.out hlc hc (HA.out.belowB HB9.out HS.out) (fun b hb => by have := HS.out b hb; have := HB9.out.size; omega) HRl.out HRI.out HFx.out).mono ?_
      rintro e w10 ⟨s', vn, vr, hset, rfl, hvn, hvr, hb10⟩
      obtain rfl : s' = s := ((HTS.out.reach.rset HRI.out).same hset).symm
      dsimp only at hvr
      rw [← HNs.out] at hvn
      rw [← HRu.out] at hvr
      obtain ⟨Cn, en, eB, _⟩ := hvn.form
      obtain ⟨Cr, er, eB2, _⟩ := hvr.form
      subst eB; subst eB2
      have HWn := Lib.hid ((hvn.vl.els).2.2.2.keep (S' := fun b => b < w10.heap.size) (fun _ _ _ => rfl) (fun b hb => hb.2))
      have HWr := Lib.hid ((hvr.vl.els).2.2.2.keep (S' := fun b => b < w10.heap.size) (fun _ _ _ => rfl) (fun b hb => hb.2))
      have hG10 := HG9.out.below hb10 HG9.out.lt
      have hH10 := HH9.out.below hb10 HH9.out.lt
      have HB10 := Lib.hid (bthen HB9.out hb10 HB9.out.size)
      have HAg10 := Lib.hid (HAg9.out.below hb10)
      have HVn10 := Lib.hid (HVn9.out.below hb10)
      have HVr10 := Lib.hid (HVr9.out.below hb10)
      have a0 : w10.cell? ⟨w.heap.size, 0, none⟩ = some (.int .i64 gt) := hG10.cell 0
      have a1 : w10.cell? ⟨w.heap.size, 1, none⟩ = some (.int .i64 (n : Int)) := hG10.cell 1
      have a2 : w10.cell? ⟨w.heap.size, 2, none⟩ = some (.int .i64 (s0 : Int)) := hG10.cell 2
      have a3 : w10.cell? ⟨w.heap.size, 3, none⟩ = some (.slice A rs.length c) := hG10.cell 3
      have b0 : w10.cell? ⟨w6.heap.size, 0, none⟩ = some (.int .i64 ht) := hH10.cell 0
      have b1 : w10.cell? ⟨w6.heap.size, 1, none⟩ = some (.int .i64 hn) := hH10.cell 1
      have b2 : w10.cell? ⟨w6.heap.size, 2, none⟩ = some (.int .i64 hs) := hH10.cell 2
      have b3 : w10.cell? ⟨w6.heap.size, 3, none⟩ = some (.slice Ag hrs.length cg) := hH10.cell 3
      have zG10 := hG10.lt
      have zH10 := hH10.lt
      have hns9 : ns.length ≤ 9223372036854775807 := by omega
      have hrs9 : rus.length ≤ 9223372036854775807 := by omega
      clear hset hvn hvr hb10 hG10 hH10 p0 p1 p2 p3
      go_upto_region 11 with (fail)
      go_region_held3 (fun w' => w'.cell? ⟨w.heap.size, 0, none⟩ = some (.int .i64 gt) ∧ w'.cell? ⟨w.heap.size, 1, none⟩ = some (.int .i64 (n : Int)) ∧ w'.cell? ⟨w.heap.size, 2, none⟩ = some (.int .i64 (s0 : Int)) ∧ w'.cell? ⟨w.heap.size, 3, none⟩ = some (.slice A rs.length c) ∧ w'.cell? ⟨w6.heap.size, 0, none⟩ = some (.int .i64 ht) ∧ w'.cell? ⟨w6.heap.size, 1, none⟩ = some (.int .i64 hn) ∧ w'.cell? ⟨w6.heap.size, 2, none⟩ = some (.int .i64 hs) ∧ w'.cell? ⟨w6.heap.size, 3, none⟩ = some (.slice Ag hrs.length cg)) (go_keep)
        (first
        | (go_at_call 32
           first
           | (have _t := tokA
              clear _t
              refine (eq_trueI Br Cr rus _ _ dr er _ _ _ rfl rfl hrs9 (HVr10.out.below H11.out) (HWr.out.below H11.out)).mono ?_
              rintro e w12 ⟨rfl, hb12⟩
              have H12 := Lib.hid (bthen H11.out hb12 H11.out.size)
              have m0 := (H12.out.cell (p := ⟨w.heap.size, 0, none⟩) zG10).trans a0
              have m1 := (H12.out.cell (p := ⟨w.heap.size, 1, none⟩) zG10).trans a1
              have m2 := (H12.out.cell (p := ⟨w.heap.size, 2, none⟩) zG10).trans a2
              have m3 := (H12.out.cell (p := ⟨w.heap.size, 3, none⟩) zG10).trans a3
              have n0 := (H12.out.cell (p := ⟨w6.heap.size, 0, none⟩) zH10).trans b0
              have n1 := (H12.out.cell (p := ⟨w6.heap.size, 1, none⟩) zH10).trans b1
              have n2 := (H12.out.cell (p := ⟨w6.heap.size, 2, none⟩) zH10).trans b2
              have n3 := (H12.out.cell (p := ⟨w6.heap.size, 3, none⟩) zH10).trans b3
              clear hb12)
           | (refine (eq_trueI Bn Cn ns _ _ dn en _ _ _ rfl rfl hns9 (HVn10.out.below (Below.refl _ _).drew) (HWn.out.below (Below.refl _ _).drew)).mono ?_
              rintro e w11 ⟨rfl, hb11⟩
              have H11 := Lib.hid (((Below.refl w10.heap.size w10).drew).trans hb11)
              have i0 := (H11.out.cell (p := ⟨w.heap.size, 0, none⟩) zG10).trans a0
              have i1 := (H11.out.cell (p := ⟨w.heap.size, 1, none⟩) zG10).trans a1
              have i2 := (H11.out.cell (p := ⟨w.heap.size, 2, none⟩) zG10).trans a2
              have i3 := (H11.out.cell (p := ⟨w.heap.size, 3, none⟩) zG10).trans a3
              have j0 := (H11.out.cell (p := ⟨w6.heap.size, 0, none⟩) zH10).trans b0
              have j1 := (H11.out.cell (p := ⟨w6.heap.size, 1, none⟩) zH10).trans b1
              have j2 := (H11.out.cell (p := ⟨w6.heap.size, 2, none⟩) zH10).trans b2
              have j3 := (H11.out.cell (p := ⟨w6.heap.size, 3, none⟩) zH10).trans b3
              have tokA : True := trivial
              clear hb11))
        | (go_at_call 33
           refine (renamed_any ⟨gt, (n : Int), (s0 : Int), rs⟩ n l s' A Cn Cr c en er S _ _ _ ns rus rfl HC.out hlc hc (HA.out.belowB (bthen HB10.out H12.out HB10.out.size) HS.out) (fun b hb => by have := HS.out b hb; have := HB10.out.size; have := H12.out.size; omega) HTS.out HNs.out HRu.out (HWn.out.below H12.out) (fun b hb => by have := H12.out.size; omega) (HWr.out.below H12.out) (fun b hb => by have := H12.out.size; omega)).mono ?_
           rintro e w13 ⟨vg, rfl, hvg, hb13⟩
           rw [← HH.out] at hvg
           obtain ⟨sg, e1, _, _, _, hsg⟩ := hvg.gram
           obtain ⟨Ak, ck, e2, hk1, hk2, hAk⟩ := hsg.slice
           subst e2
           subst e1
           dsimp only at hk1 hAk
           have H13 := Lib.hid (bthen H12.out hb13 H12.out.size)
           have HAk := Lib.hid hAk
           have u0 := (H13.out.cell (p := ⟨w.heap.size, 0, none⟩) zG10).trans a0
           have u1 := (H13.out.cell (p := ⟨w.heap.size, 1, none⟩) zG10).trans a1
           have u2 := (H13.out.cell (p := ⟨w.heap.size, 2, none⟩) zG10).trans a2
           have u3 := (H13.out.cell (p := ⟨w.heap.size, 3, none⟩) zG10).trans a3
           have v0 := (H13.out.cell (p := ⟨w6.heap.size, 0, none⟩) zH10).trans b0
           have v1 := (H13.out.cell (p := ⟨w6.heap.size, 1, none⟩) zH10).trans b1
           have v2 := (H13.out.cell (p := ⟨w6.heap.size, 2, none⟩) zH10).trans b2
           have v3 := (H13.out.cell (p := ⟨w6.heap.size, 3, none⟩) zH10).trans b3
           clear hvg hsg hAk hb13)
        | (go_at_call 29
           refine (sameGram_any ⟨ht, hn, hs, hrs⟩ ⟨ht, hn, hs, hrs⟩ Ag Ak cg ck _ _ _ ⟨hg1, hg2⟩ ⟨hk1, hk2⟩ (HAg10.out.below H13.out) HAk.out).mono ?_
           rintro e w14 ⟨rfl, hb14⟩
           rw [decide_eq_true rfl]
           have H14 := Lib.hid (bthen H13.out hb14 H13.out.size)
           have x0 := (H14.out.cell (p := ⟨w.heap.size, 0, none⟩) zG10).trans a0
           have x1 := (H14.out.cell (p := ⟨w.heap.size, 1, none⟩) zG10).trans a1
           have x2 := (H14.out.cell (p := ⟨w.heap.size, 2, none⟩) zG10).trans a2
           have x3 := (H14.out.cell (p := ⟨w.heap.size, 3, none⟩) zG10).trans a3
           have y0 := (H14.out.cell (p := ⟨w6.heap.size, 0, none⟩) zH10).trans b0
           have y1 := (H14.out.cell (p := ⟨w6.heap.size, 1, none⟩) zH10).trans b1
           have y2 := (H14.out.cell (p := ⟨w6.heap.size, 2, none⟩) zH10).trans b2
           have y3 := (H14.out.cell (p := ⟨w6.heap.size, 3, none⟩) zH10).trans b3
           clear hb14))
      have HB14 := Lib.hid (bthen HB10.out H14.out HB10.out.size)
      go_wp2
      go_ret
      exact ⟨rfl, HB14.out⟩
    · have HFx := Lib.hid hfix
      have HLl := Lib.hid hfix.shape.len
      obtain ⟨ls, hls⟩ := get_some (show s0 < l.length by rw [HLl.out]; exact hs0)
      have HLs := Lib.hid hls
      have hls0 : ls < 0 := by
        dsimp only at hneg
        rw [show ((s0 : Int)).toNat = s0 from by omega, List.getD_eq_getElem?_getD, hls] at hneg
        exact hneg
      obtain ⟨w7, hw7⟩ : ∃ w7 : World, w7 = w6.alloc (.cells #[.int .i64 0, .int .i64 0, .int .i64 0, .slice none 0 0] 35) := ⟨_, rfl⟩
      have hb7 : Below w6.heap.size w6 w7 := by rw [hw7]; exact (Below.refl _ _).alloc (Nat.le_refl _) _
      have HB7 := Lib.hid (bthen (bthen HB5.out hb6 HB5.out.size) hb7 (by have := HB5.out.size; have := hb6.size; omega))
      have hG7 := (H5G.out.below hb6 H5G.out.lt).below hb7 (H5G.out.below hb6 H5G.out.lt).lt
      have HG7 := Lib.hid hG7
      have HH7 : Hid (Blk' w7 w6.heap.size 35 #[.int .i64 0, .int .i64 0, .int .i64 0, .slice none 0 0]) := Lib.hid (by rw [hw7]; exact Blk'.new _ _ _)
      have HW7 := Lib.hid hw7
      have j0 : w7.cell? ⟨w.heap.size, 0, none⟩ = some (.int .i64 gt) := hG7.cell 0
      have j1 : w7.cell? ⟨w.heap.size, 1, none⟩ = some (.int .i64 (n : Int)) := hG7.cell 1
      have j2 : w7.cell? ⟨w.heap.size, 2, none⟩ = some (.int .i64 (s0 : Int)) := hG7.cell 2
      have j3 : w7.cell? ⟨w.heap.size, 3, none⟩ = some (.slice A rs.length c) := hG7.cell 3
      have zG7 := hG7.lt
      clear g0 g1 g2 g3 hb6 hw7 hb7 hG7 hfix hls hneg
      go_upto_region 5 with (fail)
      rw [← HW7.out]
      go_wp2_with fail
      refine (gramErr_any ⟨gt, (n : Int), (s0 : Int), rs⟩ A c S _ H64.out hlc hc (HA.out.belowB HB7.out HS.out) (fun b hb => by have := HS.out b hb; have := HB7.out.size; omega)).mono ?_
      rintro e w8 ⟨rfl, hb8⟩
      rw [HC.out]
      have HB8 := Lib.hid (bthen HB7.out hb8 HB7.out.size)
      have hG8 := HG7.out.below hb8 HG7.out.lt
      have HH8 := Lib.hid (HH7.out.below hb8 HH7.out.lt)
      have k0 : w8.cell? ⟨w.heap.size, 0, none⟩ = some (.int .i64 gt) := hG8.cell 0
      have k1 : w8.cell? ⟨w.heap.size, 1, none⟩ = some (.int .i64 (n : Int)) := hG8.cell 1
      have k2 : w8.cell? ⟨w.heap.size, 2, none⟩ = some (.int .i64 (s0 : Int)) := hG8.cell 2
      have k3 : w8.cell? ⟨w.heap.size, 3, none⟩ = some (.slice A rs.length c) := hG8.cell 3
      have zG8 := hG8.lt
      clear hb8 hG8 j0 j1 j2 j3
      go_wp2_with fail
      refine wp_region_noPanic ?_
      refine wp_region_held_drew (S := (fun w' => w'.cell? ⟨w.heap.size, 0, none⟩ = some (.int .i64 gt) ∧ w'.cell? ⟨w.heap.size, 1, none⟩ = some (.int .i64 (n : Int)) ∧ w'.cell? ⟨w.heap.size, 2, none⟩ = some (.int .i64 (s0 : Int)) ∧ w'.cell? ⟨w.heap.size, 3, none⟩ = some (.slice A rs.length c))) (by kernel_rfl) ?hg (fun hHeld => ?bg)
      case hg => ((try dsimp only); go_keep)
      refine take_run (i := 0) (v := ?vg0) rfl (by kernel_rfl) (by kernel_rfl) (by kernel_rfl) (fun _ _ _ h => h) (by rfl) ?yg0 (by assumption) ?rg0
      case yg0 => (intro w hSw; (try dsimp only at hSw); go_simp; try with_reducible rfl)
      try simp only [Act.put, List.setIfInBounds_toArray, List.set_cons_zero, List.set_cons_succ]
      refine take_run (i := 1) (v := ?vg1) rfl (by kernel_rfl) (by kernel_rfl) (by kernel_rfl) (fun _ _ _ h => h) (by rfl) ?yg1 (by assumption) ?rg1
      case yg1 => (intro w hSw; (try dsimp only at hSw); go_simp; try with_reducible rfl)
      try simp only [Act.put, List.setIfInBounds_toArray, List.set_cons_zero, List.set_cons_succ]
      refine take_run (i := 2) (v := ?vg2) rfl (by kernel_rfl) (by kernel_rfl) (by kernel_rfl) (fun _ _ _ h => h) (by rfl) ?yg2 (by assumption) ?rg2
      case yg2 => (intro w hSw; (try dsimp only at hSw); go_simp; try with_reducible rfl)
      try simp only [Act.put, List.setIfInBounds_toArray, List.set_cons_zero, List.set_cons_succ]
      refine take_run (i := 3) (v := ?vg3) rfl (by kernel_rfl) (by kernel_rfl) (by kernel_rfl) (fun _ _ _ h => h) (by rfl) ?yg3 (by assumption) ?rg3
      case yg3 => (intro w hSw; (try dsimp only at hSw); go_simp; try with_reducible rfl)
      try simp only [Act.put, List.setIfInBounds_toArray, List.set_cons_zero, List.set_cons_succ]
      refine take_run (i := 5) (v := ?vg5) rfl (by kernel_rfl) (by kernel_rfl) (by kernel_rfl) (fun _ _ _ h => h) (by rfl) ?yg5 (by assumption) ?rg5
      case yg5 => (intro w hSw; (try dsimp only at hSw); go_simp; try with_reducible rfl)
      try simp only [Act.put, List.setIfInBounds_toArray, List.set_cons_zero, List.set_cons_succ]
      refine take_run (i := 6) (v := ?vg6) rfl (by kernel_rfl) (by kernel_rfl) (by kernel_rfl) (fun _ _ _ h => h) (by rfl) ?yg6 (by assumption) ?rg6
      case yg6 => (intro w hSw; (try dsimp only at hSw); go_simp; try with_reducible rfl)
      try simp only [Act.put, List.setIfInBounds_toArray, List.set_cons_zero, List.set_cons_succ]
      refine take_call (i := 4) rfl (by kernel_rfl) (by rfl) (fun K hK => ?_)
      go_simp
      go_at_call 30
      refine (rlengths_any ⟨gt, (n : Int), (s0 : Int), rs⟩ n A c S _ l rfl HN.out hlc hc (HA.out.belowB HB8.out.drew HS.out) (fun b hb => by have := HS.out b hb; have := HB8.out.size; simp; omega) HRl.out HRI.out HFx.out).mono ?_
      rintro e w9 ⟨Lb, cl, z, rfl, hLb, hcl1, hcl2, hLge, hb9⟩
      have H9 := Lib.hid (((Below.refl w8.heap.size w8).drew).trans hb9)
      have p0 := (H9.out.cell (p := ⟨w.heap.size, 0, none⟩) zG8).trans k0
      have p1 := (H9.out.cell (p := ⟨w.heap.size, 1, none⟩) zG8).trans k1
      have p2 := (H9.out.cell (p := ⟨w.heap.size, 2, none⟩) zG8).trans k2
      have p3 := (H9.out.cell (p := ⟨w.heap.size, 3, none⟩) zG8).trans k3
      have cL : w9.cell? ⟨Lb, s0, none⟩ = some (.int .i64 ls) := (hLb.cell _).trans ((slack_get (by rw [icells_size, HLl.out]; exact hs0)).trans (icells_get HLs.out))
      have zL := hLb.lt
      clear hLb hb9
      refine hK.out _ _ ?hg4 (fun hHeld => ?rg4)
      case hg4 => ((try dsimp only); go_keep)
      clear hK K
      try simp only [Act.put, List.setIfInBounds_toArray, List.set_cons_zero, List.set_cons_succ]
      refine take_run (i := 7) (v := ?vg7) rfl (by kernel_rfl) (by kernel_rfl) (by kernel_rfl) (fun _ _ _ h => h) (by rfl) ?yg7 (by assumption) ?rg7
      case yg7 => (intro w hSw; (try dsimp only at hSw); go_simp; try with_reducible rfl)
      try simp only [Act.put, List.setIfInBounds_toArray, List.set_cons_zero, List.set_cons_succ]
      refine take_call (i := 8) rfl (by kernel_rfl) (by rfl) (fun K hK => ?_)
      go_simp
      refine hK.out _ _ ?hg8 (fun hHeld => ?rg8)
      case hg8 => ((try dsimp only); go_keep)
      clear hK K
      try simp only [Act.put, List.setIfInBounds_toArray, List.set_cons_zero, List.set_cons_succ]
      refine take_run (i := 9) (v := ?vg9) rfl (by kernel_rfl) (by kernel_rfl) (by kernel_rfl) (fun _ _ _ h => h) (by rfl) ?yg9 (by assumption) ?rg9
      case yg9 => (intro w hSw; (try dsimp only at hSw); go_simp; try with_reducible rfl)
      try simp only [Act.put, List.setIfInBounds_toArray, List.set_cons_zero, List.set_cons_succ]
      refine take_run (i := 10) (v := ?vg10) rfl (by kernel_rfl) (by kernel_rfl) (by kernel_rfl) (fun _ _ _ h => h) (by rfl) ?yg10 (by assumption) ?rg10
      case yg10 => (intro w hSw; (try dsimp only at hSw); go_simp; try with_reducible rfl)
      try simp only [Act.put, List.setIfInBounds_toArray, List.set_cons_zero, List.set_cons_succ]
      refine wpAnyH_done (by kernel_rfl) ?_ _
      refine NoPanic.normal ?_
      have hH9 := HH8.out.below H9.out HH8.out.lt
      have l0 : w9.cell? ⟨w6.heap.size, 0, none⟩ = some (.int .i64 0) := hH9.cell 0
      have l1 : w9.cell? ⟨w6.heap.size, 1, none⟩ = some (.int .i64 0) := hH9.cell 1
      have l2 : w9.cell? ⟨w6.heap.size, 2, none⟩ = some (.int .i64 0) := hH9.cell 2
      have l3 : w9.cell? ⟨w6.heap.size, 3, none⟩ = some (.slice none 0 0) := hH9.cell 3
      have zh9 := hH9.lt
      have HB9 := Lib.hid (bthen HB8.out H9.out HB8.out.size)
      clear k0 k1 k2 k3 p0 p1 p2 p3 cL hH9 H9
      go_wp2_with fail
      refine (sameGram_any ZeroG ZeroG none none 0 0 (fun _ => False) (fun _ => False) _ ⟨by decide, by decide⟩ ⟨by decide, by decide⟩ (fun h => absurd rfl h) (fun h => absurd rfl h)).mono ?_
      rintro e w10 ⟨rfl, hb10⟩
      rw [decide_eq_true rfl]
      have HB10 := Lib.hid (bthen HB9.out hb10 HB9.out.size)
      clear hb10
      go_wp2
      go_ret
      exact ⟨rfl, HB10.out⟩
  · go_wp2_with fail
    refine (trim_bad ⟨gt, gn, gs, rs⟩ A c S _ hce hlc hc (HA.out.belowB HB5.out HS.out)).mono ?_
    rintro e w6 ⟨rfl, hb6⟩
    obtain ⟨ce, hE⟩ : ∃ ce, checkI ⟨gt, gn, gs, rs⟩ = ce := ⟨_, rfl⟩
    rw [hE] at hce
    rw [hE]
    have HE := Lib.hid hE
    have hne : (ce != 0) = true := by simpa using hce
    have heq : (ce == 0) = false := by simpa using hce
    obtain ⟨w7, hw7⟩ : ∃ w7 : World, w7 = w6.alloc (.cells #[.int .i64 0, .int .i64 0, .int .i64 0, .slice none 0 0] 35) := ⟨_, rfl⟩
    have hb7 : Below w6.heap.size w6 w7 := by rw [hw7]; exact (Below.refl _ _).alloc (Nat.le_refl _) _
    have HB7 := Lib.hid (bthen (bthen HB5.out hb6 HB5.out.size) hb7 (by have := HB5.out.size; have := hb6.size; omega))
    have hG7 := (H5G.out.below hb6 H5G.out.lt).below hb7 (H5G.out.below hb6 H5G.out.lt).lt
    have HG7 := Lib.hid hG7
    have HH7 : Hid (Blk' w7 w6.heap.size 35 #[.int .i64 0, .int .i64 0, .int .i64 0, .slice none 0 0]) := Lib.hid (by rw [hw7]; exact Blk'.new _ _ _)
    have k0 : w7.cell? ⟨w.heap.size, 0, none⟩ = some (.int .i64 gt) := hG7.cell 0
    have k1 : w7.cell? ⟨w.heap.size, 1, none⟩ = some (.int .i64 gn) := hG7.cell 1
    have k2 : w7.cell? ⟨w.heap.size, 2, none⟩ = some (.int .i64 gs) := hG7.cell 2
    have k3 : w7.cell? ⟨w.heap.size, 3, none⟩ = some (.slice A rs.length c) := hG7.cell 3
    have zG7 := hG7.lt
    have HW7 := Lib.hid hw7
    clear g0 g1 g2 g3 hb6 hw7 hb7 hG7 hE
    go_upto_region 5 with (fail)
    rw [← HW7.out]
    go_wp2_with fail
    refine (gramErr_any ⟨gt, gn, gs, rs⟩ A c S _ H64.out hlc hc (HA.out.belowB HB7.out HS.out) (fun b hb => by have := HS.out b hb; have := HB7.out.size; omega)).mono ?_
    rintro e w8 ⟨rfl, hb8⟩
    rw [HE.out]
    have HB8 := Lib.hid (bthen HB7.out hb8 HB7.out.size)
    have hH8 := HH7.out.below hb8 HH7.out.lt
    have l0 : w8.cell? ⟨w6.heap.size, 0, none⟩ = some (.int .i64 0) := hH8.cell 0
    have l1 : w8.cell? ⟨w6.heap.size, 1, none⟩ = some (.int .i64 0) := hH8.cell 1
    have l2 : w8.cell? ⟨w6.heap.size, 2, none⟩ = some (.int .i64 0) := hH8.cell 2
    have l3 : w8.cell? ⟨w6.heap.size, 3, none⟩ = some (.slice none 0 0) := hH8.cell 3
    have zh8 := hH8.lt
    clear hb8 hH8 k0 k1 k2 k3
    go_wp2_with fail
    go_quiet (fail)
    go_wp2_with fail
    refine (sameGram_any ZeroG ZeroG none none 0 0 (fun _ => False) (fun _ => False) _ ⟨by decide, by decide⟩ ⟨by decide, by decide⟩ (fun h => absurd rfl h) (fun h => absurd rfl h)).mono ?_
    rintro e w9 ⟨rfl, hb9⟩
    rw [decide_eq_true rfl]
    have HB9 := Lib.hid (bthen HB8.out (bundrewN hb9) HB8.out.size)
    clear hb9
    go_wp2
    go_ret
    exact ⟨rfl, HB9.out⟩

theorem usefulTrims_row (g : Gram) (v0 : Value) (W : World) (h0 : Vl W (OldS W) g v0) :
    Calls Tryd.prog 5 #[v0] W fun e W' => e = .returned (.bool true) ∧ Below W.heap.size W W' := by
  obtain ⟨s, rfl, k1, k2, k3, hs⟩ := h0.gram
  obtain ⟨A, c, rfl, hlc, hc, hA⟩ := hs.slice
  exact usefulTrims_any g A c (OldS W) W ⟨k1, k2, k3⟩ hlc hc hA (fun b h => h)
end Go.Proofs.YtbboceklkjfimaaDoor
