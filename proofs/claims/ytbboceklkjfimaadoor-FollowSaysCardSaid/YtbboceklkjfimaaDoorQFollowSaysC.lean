/- The walk of the law FollowSays. -/
import Derived.Test.YtbboceklkjfimaaDoorQFirstSaysP
import Derived.Test.YtbboceklkjfimaaDoorQFollowBad
import Derived.Test.YtbboceklkjfimaaDoorQRPredict
namespace Go.Proofs.YtbboceklkjfimaaDoor
open Go.RowKit
set_option linter.unusedVariables false

theorem simple_fol {e inn : List Bool} {f fol : List (List Bool)} (h : ClosedFol simpleG 1 e f inn fol) : fol = [[true, true]] := by
  have h1 : fol.length = 1 := h.len
  have h2 := h.start
  have h3 := h.row ⟨0, [⟨false, 0⟩, ⟨true, 0⟩]⟩ (by simp [simpleG]) h.startIn 0 ⟨false, 0⟩ rfl rfl 0 (by simp [ofFrom])
  have h4 := h.rows
  match fol, h1 with
  | [r], _ =>
    have h5 : r.length = 2 := h4 0 r rfl
    match r, h5 with
    | [a, b], _ =>
      simp [simpleG] at h2 h3
      rw [h2, h3]
theorem tab_eq {M : Nat} {P : Nat → Nat → Prop} {f f' : List (List Bool)} (hl : f.length = f'.length) (h1 : TabIs M P f) (h2 : TabIs M P f') : f = f' := by
  apply List.ext_getElem?
  intro i
  by_cases hi : i < f.length
  · obtain ⟨a, ha⟩ := get_some hi
    obtain ⟨b, hb⟩ := get_some (show i < f'.length by omega)
    rw [ha, hb, (h1 i a ha).same (h2 i b hb)]
  · rw [List.getElem?_eq_none (by omega), List.getElem?_eq_none (by omega)]
open Classical in
theorem predRow_is {g : Gram} {m n : Nat} {e inn : List Bool} {f fol : List (List Bool)} (hv : ValidG g) (hm : g.terms = (m : Int)) (hn : g.nons = (n : Int)) (hst : Stable g m n e f) (hf : ClosedFol g m e f inn fol) (hle : ∀ F, ClosedFol g m e f inn F → LeF F fol) {L : List Int} (hL : LFix g n L) (hin : RFix g (fun _ => true) n inn) {q : Rule} (hq : q ∈ g.rules) : RowIs (m + 1) (PreR g m q) (predRow m e f fol q) := by
  have hri := hv.rulesIn hn
  obtain ⟨ho1, ho2⟩ := hst.ofRow hv hm hn hL (fun s hs => hv.symIn hm q hq s hs)
  have hfl : fol.length = n := by rw [hf.len, hn]; simp
  obtain ⟨lr, hlr⟩ := get_some (show q.left.toNat < fol.length by rw [hfl]; exact (hv.bounds hm hn q hq).1)
  have hLr := folR_rows hv hm hn hst hf hle hL hin hlr
  have hem : emptyB (nullB L) q.right = true ↔ Nuls g q.right := by
    rw [emptyB_iff]
    constructor
    · intro h s hs
      have h1 := h s hs
      exact ⟨h1.1, (hL.nullB hri (((hri q hq).2.2.2 s hs).2 h1.1)).1 h1.2⟩
    · intro h s hs
      have h1 := h s hs
      exact ⟨h1.1, (hL.nullB hri (((hri q hq).2.2.2 s hs).2 h1.1)).2 h1.2⟩
  have hfr : ∀ t, t < m + 1 → (((ofFrom e f (List.replicate m false) q.right).1 ++ [false])[t]? = some true ↔ (t < m ∧ FirstL g m q.right t)) := fun t ht => by
    by_cases e1 : t < m
    · rw [List.getElem?_append_left (by rw [ho1.1]; exact e1), ho1.2 t e1]
      exact ⟨fun h => ⟨e1, h⟩, fun h => h.2⟩
    · rw [List.getElem?_append_right (by rw [ho1.1]; omega), show t - (ofFrom e f (List.replicate m false) q.right).1.length = 0 from by rw [ho1.1]; omega]
      exact ⟨fun h => by simp at h, fun h => absurd h.1 e1⟩
  refine ⟨predRow_len m e f fol q, fun t ht => ?_⟩
  unfold predRow PreR
  rw [ho2]
  cases he : emptyB (nullB L) q.right
  · rw [if_neg (by simp), hfr t ht]
    exact ⟨.inl, fun h => h.elim id fun h => by rw [hem.2 h.1] at he; cases he⟩
  · rw [if_pos rfl, List.getD_eq_getElem?_getD, hlr, Option.getD_some, orRow_iff (by rw [List.length_append, ho1.1, hLr.1]; rfl), hfr t ht, hLr.2 t ht]
    exact ⟨fun h => h.elim .inl fun h => .inr ⟨hem.1 he, h⟩, fun h => h.elim .inl fun h => .inr h.2⟩
theorem predRows_eq {g : Gram} {m : Nat} {rows : List (List Bool)} {pr : Rule → List Bool} (hl : rows.length = g.rules.length) (h1 : ∀ (k : Nat) (q : Rule) (row : List Bool), g.rules[k]? = some q → rows[k]? = some row → RowIs (m + 1) (PreR g m q) row) (h2 : ∀ q ∈ g.rules, RowIs (m + 1) (PreR g m q) (pr q)) : rows = g.rules.map pr := by
  apply List.ext_getElem?
  intro i
  by_cases hi : i < g.rules.length
  · obtain ⟨q, hq⟩ := get_some hi
    obtain ⟨b, hb⟩ := get_some (show i < rows.length by omega)
    rw [hb, List.getElem?_map, hq, Option.map_some, (h1 i q b hq hb).same (h2 q (List.mem_of_getElem? hq))]
  · rw [List.getElem?_eq_none (by omega), List.getElem?_eq_none (by simpa using hi)]

set_option maxRecDepth 100000 in
set_option maxHeartbeats 4000000 in
theorem followSays_any (g : Gram) (A : Option Addr) (c : Nat) (S : Nat → Prop) (w : World) (h64 : I64 g.terms ∧ I64 g.nons ∧ I64 g.start) (hlc : g.rules.length ≤ c) (hc : c ≤ 9223372036854775807) (hA : Els w S g.rules A) (hS : ∀ b, S b → b < w.heap.size) :
    Calls Tryd.prog 7 #[.agg #[.int .i64 g.terms, .int .i64 g.nons, .int .i64 g.start, .slice A g.rules.length c]] w fun e w' => e = .returned (.bool true) ∧ Below w.heap.size w w' := by
  obtain ⟨gt, gn, gs, rs⟩ := g
  dsimp only at *
  have hba : Below w.heap.size w (w.alloc (.cells #[.int .i64 gt, .int .i64 gn, .int .i64 gs, .slice A rs.length c] 35)) := (Below.refl _ _).alloc (Nat.le_refl _) _
  have HB0 := Lib.hid hba
  have HG0 := Lib.hid (Blk'.new w 35 #[.int .i64 gt, .int .i64 gn, .int .i64 gs, .slice A rs.length c])
  have HA := Lib.hid hA
  have HS := Lib.hid hS
  have H64 := Lib.hid h64
  clear hba hA hS h64
  go_enter Tryd.func7, Tryd.ntmps7
  go_wp2_with fail
  refine (simple_any _).mono ?_
  rintro e w1 ⟨As, rfl, hEs, hb1⟩
  have HEs := Lib.hid hEs
  have HB1 := Lib.hid (bthen HB0.out hb1 (by simp))
  have HG1 := Lib.hid (HG0.out.below hb1 HG0.out.lt)
  clear hEs hb1
  go_wp2_with fail
  refine (followPub_any simpleG 1 1 As 2 _ w1 rfl rfl simpleC (by decide) (by decide) HEs.out (fun b hb => hb.2)).mono ?_
  rintro e w2 ⟨e0, f0, inn0, bf0, bs0, cf0, fol0, rfl, hst0, hfx0, hR0, hcl0, hle0, hge0, hb2⟩
  rw [simple_fol hcl0] at hR0
  have HB2 := Lib.hid (bthen HB1.out hb2 HB1.out.size)
  have HG2 := Lib.hid (HG1.out.below hb2 HG1.out.lt)
  obtain ⟨w3, hw3⟩ : ∃ w3 : World, w3 = (w2.alloc (.cells #[.bool true, .bool true] 4)).alloc (.cells #[.slice (some ⟨w2.heap.size, 0, none⟩) 2 2] 37) := ⟨_, rfl⟩
  have hb3 : Below w2.heap.size w2 w3 := by rw [hw3]; exact ((Below.refl _ _).alloc (Nat.le_refl _) _).alloc (by simp) _
  have hRb : RowsM w3 (w2.heap.size + 1) [w2.heap.size] 2 1 1 [[true, true]] := by
    have hO : Blk' w3 (w2.heap.size + 1) 37 #[.slice (some ⟨w2.heap.size, 0, none⟩) 2 2] := by rw [hw3]; exact Blk'.new' _ _ _ (by simp)
    have hR : Blk' w3 w2.heap.size 4 #[.bool true, .bool true] := by rw [hw3]; exact (Blk'.new w2 _ _).alloc _
    refine ⟨rfl, rfl, fun i b hb => ?_, fun i b row hb hr => ?_, by simp, hO.lt, by omega⟩
    · match i, hb with
      | 0, hb =>
        simp at hb
        subst hb
        exact hO.cell 0
    · match i, hb, hr with
      | 0, hb, hr =>
        simp at hb hr
        subst hb; subst hr
        exact ⟨hR, rfl⟩
  have HE1 := Lib.hid ((hR0.below hb3).els (by omega) (fun b => b < w3.heap.size) (fun b hb => (hR0.below hb3).lt b hb))
  have HE2 := Lib.hid (hRb.els (by omega) (fun b => b < w3.heap.size) (fun b hb => hRb.lt b hb))
  have HB3 := Lib.hid (bthen HB2.out hb3 HB2.out.size)
  have HG3 := Lib.hid (HG2.out.below hb3 HG2.out.lt)
  have HW3 := Lib.hid hw3
  clear hst0 hfx0 hR0 hcl0 hle0 hge0 hb2 hb3 hRb HEs hw3
  go_wp2_with fail
  rw [← HW3.out]
  refine (rows_trueB _ _ [[true, true]] 1 1 _ _ _ _ _ rfl rfl (by decide) (by decide) HE1.out HE2.out).mono ?_
  rintro e w4 ⟨rfl, hb4⟩
  have HB4 := Lib.hid (bthen HB3.out hb4 HB3.out.size)
  have hG4 := HG3.out.below hb4 HG3.out.lt
  have HG4 := Lib.hid hG4
  have g0 : w4.cell? ⟨w.heap.size, 0, none⟩ = some (.int .i64 gt) := hG4.cell 0
  have g1 : w4.cell? ⟨w.heap.size, 1, none⟩ = some (.int .i64 gn) := hG4.cell 1
  have g2 : w4.cell? ⟨w.heap.size, 2, none⟩ = some (.int .i64 gs) := hG4.cell 2
  have g3 : w4.cell? ⟨w.heap.size, 3, none⟩ = some (.slice A rs.length c) := hG4.cell 3
  have zG4 := hG4.lt
  clear hb4 hG4 HE1 HE2 HB3 HG3 HB2 HG2 HB1 HG1 HB0 HG0 HW3
  by_cases hce : checkI ⟨gt, gn, gs, rs⟩ = 0
  · have hv := validG_of hce
    obtain ⟨m, hm⟩ : ∃ m : Nat, gt = (m : Int) := ⟨gt.toNat, by have := hv.t1; dsimp only at this; omega⟩
    obtain ⟨n, hn⟩ : ∃ n : Nat, gn = (n : Int) := ⟨gn.toNat, by have := hv.n1; dsimp only at this; omega⟩
    subst hm; subst hn
    have hri := hv.rulesIn rfl
    have hm8 : 1 ≤ m ∧ m ≤ 8 := by have := hv.t1; have := hv.t8; dsimp only at *; omega
    have hn10 : 1 ≤ n ∧ n ≤ 10 := by have := hv.n1; have := hv.n10; dsimp only at *; omega
    obtain ⟨L, hL⟩ := lfix_ex ⟨(m : Int), (n : Int), gs, rs⟩ n hn10.2 (fun q hq => ⟨(hri q hq).2.1, (hri q hq).2.2.1⟩)
    have HV := Lib.hid hv
    have HC := Lib.hid hce
    have HL := Lib.hid hL
    have HRl : Hid (rs.length ≤ 1000) := Lib.hid (by have := hv.len; dsimp only at this; omega)
    clear hv hri hce hL
    go_wp2_with fail
    refine (followPub_any ⟨(m : Int), (n : Int), gs, rs⟩ m n A c S _ rfl rfl HC.out hlc hc (HA.out.belowB HB4.out HS.out) (fun b hb => by have := HS.out b hb; have := HB4.out.size; omega)).mono ?_
    rintro e w5 ⟨e5, f5, inn5, bf5, bs5, cf5, fol5, rfl, hst5, hfx5, hR5, hcl5, hle5, hge5, hb5⟩
    have hF5 : TabIs (m + 1) (FolR ⟨(m : Int), (n : Int), gs, rs⟩ m) fol5 := fun a row hr => folR_rows HV.out rfl rfl hst5 hcl5 hle5 HL.out hfx5 hr
    have HF5 := Lib.hid hF5
    have HR5 := Lib.hid (hR5.els (by omega) (fun b => b < w5.heap.size) (fun b hb => hR5.lt b hb))
    have hl5 : fol5.length = n := hR5.flen
    have HL5 := Lib.hid hl5
    have HRow5 : Hid (∀ r ∈ fol5, r.length ≤ 9223372036854775807) := Lib.hid (fun r hr => by obtain ⟨i, hi⟩ := List.mem_iff_getElem?.1 hr; have := (hF5 i r hi).1; omega)
    clear hst5 hfx5 hR5 hcl5 hle5 hge5 hF5 hl5
    have HB5 := Lib.hid (bthen HB4.out hb5 HB4.out.size)
    have hG5 := HG4.out.below hb5 HG4.out.lt
    have HG5 := Lib.hid hG5
    have k0 : w5.cell? ⟨w.heap.size, 0, none⟩ = some (.int .i64 (m : Int)) := hG5.cell 0
    have k1 : w5.cell? ⟨w.heap.size, 1, none⟩ = some (.int .i64 (n : Int)) := hG5.cell 1
    have k2 : w5.cell? ⟨w.heap.size, 2, none⟩ = some (.int .i64 gs) := hG5.cell 2
    have k3 : w5.cell? ⟨w.heap.size, 3, none⟩ = some (.slice A rs.length c) := hG5.cell 3
    have zG5 := hG5.lt
    clear hG5 g0 g1 g2 g3 hb5
    go_wp2_with fail
    refine (predict_any ⟨(m : Int), (n : Int), gs, rs⟩ m n A c S _ rfl rfl HC.out hlc hc (HA.out.belowB HB5.out HS.out) (fun b hb => by have := HS.out b hb; have := HB5.out.size; omega)).mono ?_
    rintro e w6 ⟨e6, f6, inn6, fol6, v6, rfl, hst6, hfx6, hcl6, hle6, hvl6, hb6⟩
    have HP6 : Hid (∀ q ∈ rs, RowIs (m + 1) (PreR ⟨(m : Int), (n : Int), gs, rs⟩ m q) (predRow m e6 f6 fol6 q)) := Lib.hid (fun q hq => predRow_is HV.out rfl rfl hst6 hcl6 hle6 HL.out hfx6 hq)
    obtain ⟨A6, c6, rfl, hl6, hc6, hE6⟩ := hvl6.slice
    rw [List.length_map] at hl6 ⊢
    have HE6 := Lib.hid hE6
    have HR6 := Lib.hid (HR5.out.below hb6)
    clear hst6 hfx6 hcl6 hle6 hvl6 hE6
    have HB6 := Lib.hid (bthen HB5.out hb6 HB5.out.size)
    have hG6 := HG5.out.below hb6 HG5.out.lt
    have HG6 := Lib.hid hG6
    have p0 : w6.cell? ⟨w.heap.size, 0, none⟩ = some (.int .i64 (m : Int)) := hG6.cell 0
    have p1 : w6.cell? ⟨w.heap.size, 1, none⟩ = some (.int .i64 (n : Int)) := hG6.cell 1
    have p2 : w6.cell? ⟨w.heap.size, 2, none⟩ = some (.int .i64 gs) := hG6.cell 2
    have p3 : w6.cell? ⟨w.heap.size, 3, none⟩ = some (.slice A rs.length c) := hG6.cell 3
    have zG6 := hG6.lt
    clear hG6 k0 k1 k2 k3 hb6
    go_wp2_with fail
    refine (gramErr_any ⟨(m : Int), (n : Int), gs, rs⟩ A c S _ H64.out hlc hc (HA.out.belowB HB6.out HS.out) (fun b hb => by have := HS.out b hb; have := HB6.out.size; omega)).mono ?_
    rintro e w7 ⟨rfl, hb7⟩
    rw [HC.out]
    have HR7 := Lib.hid (HR6.out.below hb7)
    have HE7 := Lib.hid (HE6.out.below hb7)
    have HB7 := Lib.hid (bthen HB6.out hb7 HB6.out.size)
    have hG7 := HG6.out.below hb7 HG6.out.lt
    have HG7 := Lib.hid hG7
    have q0 : w7.cell? ⟨w.heap.size, 0, none⟩ = some (.int .i64 (m : Int)) := hG7.cell 0
    have q1 : w7.cell? ⟨w.heap.size, 1, none⟩ = some (.int .i64 (n : Int)) := hG7.cell 1
    have q2 : w7.cell? ⟨w.heap.size, 2, none⟩ = some (.int .i64 gs) := hG7.cell 2
    have q3 : w7.cell? ⟨w.heap.size, 3, none⟩ = some (.slice A rs.length c) := hG7.cell 3
    have zG7 := hG7.lt
    clear hG7 p0 p1 p2 p3 hb7
    go_wp2_with fail
    refine (rfollow_any ⟨(m : Int), (n : Int), gs, rs⟩ m n A c S _ L rfl rfl HC.out hlc hc (HA.out.belowB HB7.out HS.out) (fun b hb => by have := HS.out b hb; have := HB7.out.size; omega) HL.out).mono ?_
    rintro e w8 ⟨bf8, bs8, f8, rfl, hR8, hT8, hge8, hb8⟩
    have e8 : f8 = fol5 := tab_eq (hR8.flen.trans HL5.out.symm) hT8 HF5.out
    subst e8
    have HR8 := Lib.hid (hR8.els (by omega) (fun b => b < w8.heap.size) (fun b hb => hR8.lt b hb))
    have HX8 := Lib.hid (HR7.out.below hb8)
    have HE8 := Lib.hid (HE7.out.below hb8)
    clear hR8 hT8 hge8
    have HB8 := Lib.hid (bthen HB7.out hb8 HB7.out.size)
    have hG8 := HG7.out.below hb8 HG7.out.lt
    have HG8 := Lib.hid hG8
    have r0 : w8.cell? ⟨w.heap.size, 0, none⟩ = some (.int .i64 (m : Int)) := hG8.cell 0
    have r1 : w8.cell? ⟨w.heap.size, 1, none⟩ = some (.int .i64 (n : Int)) := hG8.cell 1
    have r2 : w8.cell? ⟨w.heap.size, 2, none⟩ = some (.int .i64 gs) := hG8.cell 2
    have r3 : w8.cell? ⟨w.heap.size, 3, none⟩ = some (.slice A rs.length c) := hG8.cell 3
    have zG8 := hG8.lt
    clear hG8 q0 q1 q2 q3 hb8
    go_wp2_with fail
    refine (rows_trueB _ _ f8 _ _ _ _ _ _ _ HL5.out.symm HL5.out.symm (by rw [HL5.out]; omega) HRow5.out HX8.out HR8.out).mono ?_
    rintro e w9 ⟨rfl, hb9⟩
    have HE9 := Lib.hid (HE8.out.below hb9)
    have HB9 := Lib.hid (bthen HB8.out hb9 HB8.out.size)
    have hG9 := HG8.out.below hb9 HG8.out.lt
    have HG9 := Lib.hid hG9
    have s0 : w9.cell? ⟨w.heap.size, 0, none⟩ = some (.int .i64 (m : Int)) := hG9.cell 0
    have s1 : w9.cell? ⟨w.heap.size, 1, none⟩ = some (.int .i64 (n : Int)) := hG9.cell 1
    have s2 : w9.cell? ⟨w.heap.size, 2, none⟩ = some (.int .i64 gs) := hG9.cell 2
    have s3 : w9.cell? ⟨w.heap.size, 3, none⟩ = some (.slice A rs.length c) := hG9.cell 3
    have zG9 := hG9.lt
    clear hG9 r0 r1 r2 r3 hb9
    go_wp2_with fail
    refine (rpredict_any ⟨(m : Int), (n : Int), gs, rs⟩ m n A c S _ L rfl rfl HC.out hlc hc (HA.out.belowB HB9.out HS.out) (fun b hb => by have := HS.out b hb; have := HB9.out.size; omega) HL.out).mono ?_
    rintro e wa ⟨va, rows, rfl, hlen, hrows, hvla, hba⟩
    have ea : rows = rs.map (predRow m e6 f6 fol6) := predRows_eq hlen hrows HP6.out
    subst ea
    obtain ⟨Aa, ca, rfl, hla, hca, hEa⟩ := hvla.slice
    have HEa := Lib.hid hEa
    have HEb := Lib.hid (HE9.out.below hba)
    have HBa := Lib.hid (bthen HB9.out hba HB9.out.size)
    have HPl : Hid (∀ r ∈ rs.map (predRow m e6 f6 fol6), r.length ≤ 9223372036854775807) := Lib.hid (fun r hr => by
      obtain ⟨q, _, rfl⟩ := List.mem_map.1 hr
      rw [predRow_len]; omega)
    have HMl : Hid ((rs.map (predRow m e6 f6 fol6)).length = rs.length) := Lib.hid (List.length_map ..)
    clear hlen hrows hvla hEa hba s0 s1 s2 s3 hla
    go_wp2_with fail
    refine (rows_trueB _ _ (rs.map (predRow m e6 f6 fol6)) _ _ _ _ _ _ _ (by first | rfl | exact HMl.out.symm) (by first | rfl | exact HMl.out.symm) (by rw [HMl.out]; have := HRl.out; omega) HPl.out HEb.out HEa.out).mono ?_
    rintro e wb ⟨rfl, hbb⟩
    have HBb := Lib.hid (bthen HBa.out hbb HBa.out.size)
    clear hbb
    go_wp2
    go_ret
    exact ⟨rfl, HBb.out⟩
  · obtain ⟨ce, hE⟩ : ∃ ce, checkI ⟨gt, gn, gs, rs⟩ = ce := ⟨_, rfl⟩
    have HE := Lib.hid hE
    have HCe := Lib.hid hce
    rw [hE] at hce
    have hne : (ce != 0) = true := by simpa using hce
    have hself : (ce == ce) = true := by simp
    clear hE
    go_wp2_with fail
    refine (follow_bad ⟨gt, gn, gs, rs⟩ A c S _ HCe.out hlc hc (HA.out.belowB HB4.out HS.out)).mono ?_
    rintro e w5 ⟨rfl, hb5⟩
    rw [HE.out]
    have HB5 := Lib.hid (bthen HB4.out hb5 HB4.out.size)
    have hG5 := HG4.out.below hb5 HG4.out.lt
    have HG5 := Lib.hid hG5
    have k0 : w5.cell? ⟨w.heap.size, 0, none⟩ = some (.int .i64 gt) := hG5.cell 0
    have k1 : w5.cell? ⟨w.heap.size, 1, none⟩ = some (.int .i64 gn) := hG5.cell 1
    have k2 : w5.cell? ⟨w.heap.size, 2, none⟩ = some (.int .i64 gs) := hG5.cell 2
    have k3 : w5.cell? ⟨w.heap.size, 3, none⟩ = some (.slice A rs.length c) := hG5.cell 3
    have zG5 := hG5.lt
    clear hG5 g0 g1 g2 g3 hb5
    go_wp2_with fail
    refine (predict_bad ⟨gt, gn, gs, rs⟩ A c S _ HCe.out hlc hc (HA.out.belowB HB5.out HS.out)).mono ?_
    rintro e w6 ⟨rfl, hb6⟩
    rw [HE.out]
    have HB6 := Lib.hid (bthen HB5.out hb6 HB5.out.size)
    have hG6 := HG5.out.below hb6 HG5.out.lt
    have HG6 := Lib.hid hG6
    have p0 : w6.cell? ⟨w.heap.size, 0, none⟩ = some (.int .i64 gt) := hG6.cell 0
    have p1 : w6.cell? ⟨w.heap.size, 1, none⟩ = some (.int .i64 gn) := hG6.cell 1
    have p2 : w6.cell? ⟨w.heap.size, 2, none⟩ = some (.int .i64 gs) := hG6.cell 2
    have p3 : w6.cell? ⟨w.heap.size, 3, none⟩ = some (.slice A rs.length c) := hG6.cell 3
    have zG6 := hG6.lt
    clear hG6 k0 k1 k2 k3 hb6
    go_wp2_with fail
    refine (gramErr_any ⟨gt, gn, gs, rs⟩ A c S _ H64.out hlc hc (HA.out.belowB HB6.out HS.out) (fun b hb => by have := HS.out b hb; have := HB6.out.size; omega)).mono ?_
    rintro e w7 ⟨rfl, hb7⟩
    rw [HE.out]
    have HB7 := Lib.hid (bthen HB6.out hb7 HB6.out.size)
    clear hb7 p0 p1 p2 p3
    go_wp2
    go_ret
    exact ⟨rfl, HB7.out⟩

theorem followSays_row (g : Gram) (v0 : Value) (W : World) (h0 : Vl W (OldS W) g v0) :
    Calls Tryd.prog 7 #[v0] W fun e W' => e = .returned (.bool true) ∧ Below W.heap.size W W' := by
  obtain ⟨s, rfl, k1, k2, k3, hs⟩ := h0.gram
  obtain ⟨A, c, rfl, hlc, hc, hA⟩ := hs.slice
  exact followSays_any g A c (OldS W) W ⟨k1, k2, k3⟩ hlc hc hA (fun b h => h)
end Go.Proofs.YtbboceklkjfimaaDoor
