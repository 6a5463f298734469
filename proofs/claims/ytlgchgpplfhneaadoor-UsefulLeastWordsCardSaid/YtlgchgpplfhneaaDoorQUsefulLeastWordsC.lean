/- The walk of the law UsefulLeastWords: the least word of the start is accepted, and no word before it is. -/
import Derived.Test.YtlgchgpplfhneaaDoorQLeastWP
import Derived.Test.YtlgchgpplfhneaaDoorQLeast
import Derived.Test.YtlgchgpplfhneaaDoorQAccepts
import Derived.Test.YtlgchgpplfhneaaDoorQMkWord
import Derived.Test.YtlgchgpplfhneaaDoorQStarChk
import Derived.Test.YtlgchgpplfhneaaDoorQWorks
import Derived.Test.YtlgchgpplfhneaaDoorQCmpInts
import Derived.Test.YtlgchgpplfhneaaDoorQp1
namespace Go.Proofs.YtlgchgpplfhneaaDoor
open Go.RowKit
set_option linter.unusedVariables false

set_option maxRecDepth 100000 in
set_option maxHeartbeats 4000000 in
theorem usefulLeastWords_any (A0 B0 : Option Addr) (c0 d0 : Nat) (raw word : List Int) (S0 : Nat → Prop) (w : World) (h1 : raw.length ≤ c0) (h2 : c0 ≤ 9223372036854775807) (hA0 : Els w S0 raw A0) (k1 : word.length ≤ d0) (k2 : d0 ≤ 9223372036854775807) (hB0 : Els w S0 word B0) (hS0 : ∀ b, S0 b → b < w.heap.size) (hTab : Tab32 w) :
    Calls Tryd.prog 4 #[.slice A0 raw.length c0, .slice B0 word.length d0] w fun e w' => e = .returned (.bool true) ∧ Below w.heap.size w w' := by
  have HB0w := Lib.hid hB0
  have HS0 := Lib.hid hS0
  have HT := Lib.hid hTab
  clear hTab
  go_enter Tryd.func4, Tryd.ntmps4
  go_wp2_with fail
  refine (grammar_any A0 c0 raw S0 _ h1 h2 hA0 hS0).mono ?_
  rintro e w1 ⟨g, v, hmade, rfl, hvl, hb1⟩
  obtain ⟨s, rfl, _, _, _, hs⟩ := hvl.gram
  obtain ⟨A, c, rfl, hlc, hc, hA⟩ := hs.slice
  have hck := made_ok hmade
  have hvg := validG_of hck
  have hn4 : g.nons ≤ 4 := hmade.2.2.2.1
  obtain ⟨m, nn, ss, rs⟩ := g
  have ht1 : 1 ≤ m := hvg.t1
  have ht8 : m ≤ 8 := hvg.t8
  have hst : 0 ≤ ss ∧ ss < nn := ⟨hvg.s0, hvg.s1⟩
  dsimp only at hn4 hlc hA
  obtain ⟨n, hne⟩ : ∃ n : Nat, nn = (n : Int) := ⟨nn.toNat, by omega⟩
  obtain ⟨y, hye⟩ : ∃ y : Nat, ss = (y : Int) := ⟨ss.toNat, by omega⟩
  subst hne; subst hye
  have hyn : y < n := by omega
  have hri := hvg.rulesIn (n := n) rfl
  obtain ⟨L, hL⟩ := lfix_ex ⟨m, (n : Int), (y : Int), rs⟩ n (by omega) (fun q hq => ⟨(hri q hq).2.1, (hri q hq).2.2.1⟩)
  have hLb := len_bound hL (by omega) y
  have HL := Lib.hid hL
  have HRI := Lib.hid hri
  have HLb := Lib.hid hLb
  have HCk := Lib.hid hck
  have hba : Below w1.heap.size w1 (w1.alloc (.cells #[.int .i64 m, .int .i64 (n : Int), .int .i64 (y : Int), .slice A rs.length c] 25)) := (Below.refl _ _).alloc (Nat.le_refl _) _
  have HA1 := Lib.hid ((hA.keep (S' := fun b => b < w1.heap.size) (fun _ _ _ => rfl) (fun b hb => hb.2)).below hba)
  have HB1 := Lib.hid (bthen hb1 hba hb1.size)
  have hz1 : w.heap.size ≤ w1.heap.size := hb1.size
  have HG1 := Lib.hid (Blk'.new w1 25 #[.int .i64 m, .int .i64 (n : Int), .int .i64 (y : Int), .slice A rs.length c])
  obtain ⟨w2, hw2⟩ : ∃ w2 : World, w2 = w1.alloc (.cells #[.int .i64 m, .int .i64 (n : Int), .int .i64 (y : Int), .slice A rs.length c] 25) := ⟨_, rfl⟩
  rw [← hw2] at HA1 HB1 HG1
  have HW2 := Lib.hid hw2
  have a0 : w2.cell? ⟨w1.heap.size, 0, none⟩ = some (.int .i64 m) := HG1.out.cell 0
  have a1 : w2.cell? ⟨w1.heap.size, 1, none⟩ = some (.int .i64 (n : Int)) := HG1.out.cell 1
  have a2 : w2.cell? ⟨w1.heap.size, 2, none⟩ = some (.int .i64 (y : Int)) := HG1.out.cell 2
  have a3 : w2.cell? ⟨w1.heap.size, 3, none⟩ = some (.slice A rs.length c) := HG1.out.cell 3
  have zG : w1.heap.size < w2.heap.size := HG1.out.lt
  clear hvl hs hA hb1 hba hmade hA0 hck hvg hw2 hri hL hLb hB0 hS0
  go_upto_region 2 with (fail)
  rw [← HW2.out]
  go_wp2_with fail
  refine (mkword_any m 6 word B0 d0 S0 w2 ht1 (by omega) (by omega) k1 k2 (HB0w.out.belowB HB1.out HS0.out) (fun b hb => by have := HS0.out b hb; omega)).mono ?_
  rintro e w3 ⟨v, ws, rfl, hwl, hwt, hown, hb3⟩
  obtain ⟨Aw, cw, rfl, hcw1, hcw2, _⟩ := hown.form
  have HEw := Lib.hid (hown.vl.els.2.2.2.keep (S' := fun b => b < w3.heap.size) (fun _ _ _ => rfl) (fun b hb => hb.2))
  have HWt := Lib.hid hwt
  have HB3 := Lib.hid (bthen HB1.out hb3 HB1.out.size)
  have HG3 := Lib.hid (HG1.out.below hb3 HG1.out.lt)
  have HA3 := Lib.hid (HA1.out.belowB hb3 (fun b hb => by omega))
  have hz3 := hb3.size
  have b0 : w3.cell? ⟨w1.heap.size, 0, none⟩ = some (.int .i64 m) := HG3.out.cell 0
  have b1 : w3.cell? ⟨w1.heap.size, 1, none⟩ = some (.int .i64 (n : Int)) := HG3.out.cell 1
  have b2 : w3.cell? ⟨w1.heap.size, 2, none⟩ = some (.int .i64 (y : Int)) := HG3.out.cell 2
  have b3 : w3.cell? ⟨w1.heap.size, 3, none⟩ = some (.slice A rs.length c) := HG3.out.cell 3
  have zG3 : w1.heap.size < w3.heap.size := HG3.out.lt
  clear a0 a1 a2 a3 hwt hown hb3
  go_wp2_with fail
  refine (leastPub_any ⟨m, (n : Int), (y : Int), rs⟩ n (y : Int) A c _ w3 L HL.out rfl HCk.out hlc hc HA3.out (fun b hb => by omega)).mono ?_
  rintro e w4 ⟨hb4, hret⟩
  obtain ⟨Al, nl, cl, ve, he, hnl⟩ : ∃ (Al : Option Addr) (nl cl : Nat) (ve : Int), e = .returned (.tuple #[.slice Al nl cl, .int .i64 ve]) ∧ ((L.getD y 0 < 0 ∧ Al = none ∧ nl = 0 ∧ cl = 0 ∧ ve = 5) ∨ (ve = 0 ∧ 0 ≤ L.getD y 0 ∧ ∃ W K, SndT ⟨m, (n : Int), (y : Int), rs⟩ n L W K ∧ StabT ⟨m, (n : Int), (y : Int), rs⟩ L W K ∧ nl = (W.getD y []).length ∧ nl ≤ cl ∧ cl ≤ 9223372036854775807 ∧ nl ≤ 2000 ∧ Els w4 (fun b => b < w4.heap.size) (W.getD y []) Al)) := by
    rw [Int.toNat_natCast] at hret
    have h5 := HLb.out
    rcases hret with ⟨h, _⟩ | ⟨_, h, he⟩ | ⟨_, h, he⟩ | ⟨_, h, _, W, K, A', c', he, h3, h4, h5, h6, h7, h8⟩
    · exact absurd (by omega) h
    · exact ⟨none, 0, 0, 5, he, .inl ⟨h, rfl, rfl, rfl, rfl⟩⟩
    · omega
    · exact ⟨A', _, c', 0, he, .inr ⟨rfl, h, W, K, h3, h4, rfl, h5, h6, h7, h8.keep (fun _ _ _ => rfl) (fun b hb => hb.2)⟩⟩
  subst he
  have HNl := Lib.hid hnl
  have HB4 := Lib.hid (bthen HB3.out hb4 HB3.out.size)
  have HG4 := Lib.hid (HG3.out.below hb4 HG3.out.lt)
  have HA4 := Lib.hid (HA3.out.belowB hb4 (fun b hb => by omega))
  have HEw4 := Lib.hid (HEw.out.belowB hb4 (fun b hb => hb))
  have hz4 := hb4.size
  have d0' : w4.cell? ⟨w1.heap.size, 0, none⟩ = some (.int .i64 m) := HG4.out.cell 0
  have d1 : w4.cell? ⟨w1.heap.size, 1, none⟩ = some (.int .i64 (n : Int)) := HG4.out.cell 1
  have d2 : w4.cell? ⟨w1.heap.size, 2, none⟩ = some (.int .i64 (y : Int)) := HG4.out.cell 2
  have d3 : w4.cell? ⟨w1.heap.size, 3, none⟩ = some (.slice A rs.length c) := HG4.out.cell 3
  have zG4 : w1.heap.size < w4.heap.size := HG4.out.lt
  clear b0 b1 b2 b3 hret hnl hb4
  go_wp2_with fail
  refine (accepts_any ⟨m, (n : Int), (y : Int), rs⟩ ws A Aw c cw _ _ w4 HCk.out hlc hc HA4.out (fun b hb => by omega) HEw4.out (fun b hb => by omega) (word_ok (by omega) HWt.out) (HT.out.below HB4.out HT.out.1)).mono ?_
  rintro e w5 ⟨bi, rfl, hbi, hb5⟩
  have HBi := Lib.hid hbi
  have HB5 := Lib.hid (bthen HB4.out hb5 HB4.out.size)
  have HB45 := Lib.hid hb5
  clear d0' d1 d2 d3 hbi hb5
  go_wp2_with fail
  refine (works_any _).mono ?_
  rintro e w6 ⟨rfl, hb6⟩
  have HB6 := Lib.hid (bthen HB5.out hb6 HB5.out.size)
  have HB46 := Lib.hid (bthen HB45.out hb6 HB45.out.size)
  have HG6 := Lib.hid (HG4.out.below HB46.out HG4.out.lt)
  have HA6 := Lib.hid (HA4.out.belowB HB46.out (fun b hb => by omega))
  have HEw6 := Lib.hid (HEw4.out.belowB HB46.out (fun b hb => by omega))
  have hz6 : w4.heap.size ≤ w6.heap.size := HB46.out.size
  have f0 : w6.cell? ⟨w1.heap.size, 0, none⟩ = some (.int .i64 m) := HG6.out.cell 0
  have f1 : w6.cell? ⟨w1.heap.size, 1, none⟩ = some (.int .i64 (n : Int)) := HG6.out.cell 1
  have f2 : w6.cell? ⟨w1.heap.size, 2, none⟩ = some (.int .i64 (y : Int)) := HG6.out.cell 2
  have f3 : w6.cell? ⟨w1.heap.size, 3, none⟩ = some (.slice A rs.length c) := HG6.out.cell 3
  have zG6 : w1.heap.size < w6.heap.size := HG6.out.lt
  clear hb6
  rcases HNl.out with ⟨hneg, rfl, rfl, rfl, rfl⟩ | ⟨rfl, h0, W, K, hs, hst2, hnle, hncl, hcl, hn2, hE⟩
  · have hbf : bi = false := by
      cases bi
      · rfl
      · exact absurd (HBi.out.1 rfl) (noW HL.out HRI.out hneg ws)
    subst hbf
    clear hneg
    go_wp2
    go_ret
    exact ⟨rfl, HB6.out⟩
  · have hlw := leastW HL.out HRI.out hs hst2 hyn h0 (by have := HLb.out; omega)
    obtain ⟨u, hu⟩ : ∃ u, u = W.getD y [] := ⟨_, rfl⟩
    rw [← hu] at hlw hnle hE
    subst hnle
    have HLW := Lib.hid hlw
    have HEu := Lib.hid (hE.belowB HB46.out (fun b hb => hb))
    have HUt : Hid (∀ x ∈ u, 0 ≤ x ∧ x < m) := Lib.hid (der_terms (validG_of HCk.out) hlw.1)
    clear hs hst2 hE hu hlw h0
    have hcmp : ∃ bb : Bool, bb = (decide (ws.length < u.length) || (decide (ws.length = u.length) && decide (cmpL ws u < 0))) ∧ (bi && bb) = false := by
      refine ⟨_, rfl, ?_⟩
      cases bi
      · rfl
      · have h3 := HLW.out.2 ws (HBi.out.1 rfl)
        have e1 : decide (ws.length < u.length) = false := decide_eq_false (by omega)
        rw [e1]
        by_cases e2 : ws.length = u.length
        · have e3 : decide (cmpL ws u < 0) = false := decide_eq_false (h3.2 e2)
          rw [e3]; simp
        · rw [decide_eq_false e2]; rfl
    rcases Nat.lt_trichotomy ws.length u.length with hl | hl | hl
    · have hbf : bi = false := by
        cases bi
        · rfl
        · have := (HLW.out.2 ws (HBi.out.1 rfl)).1; omega
      subst hbf
      have hl' : (ws.length : Int) < (u.length : Int) := by omega
      clear hcmp
      by_cases h12 : (12 : Int) < (u.length : Int)
      · go_wp2
        go_ret
        exact ⟨rfl, HB6.out⟩
      · go_wp2_with fail
        refine (accepts_any ⟨m, (n : Int), (y : Int), rs⟩ u A Al c cl _ _ w6 HCk.out hlc hc HA6.out (fun b hb => by omega) HEu.out (fun b hb => by omega) (word_ok (by omega) HUt.out) (HT.out.below HB6.out HT.out.1)).mono ?_
        rintro e w8 ⟨b8, rfl, h8, hb8⟩
        have hb8t : b8 = true := h8.2 HLW.out.1
        subst hb8t
        have HB8 := Lib.hid (bthen HB6.out hb8 HB6.out.size)
        clear h8 hb8
        go_wp2
        go_ret
        exact ⟨rfl, HB8.out⟩
    · have hl' : ((ws.length : Int) = (u.length : Int)) = True := eq_true (by omega)
      have hl1 : (ws.length = u.length) = True := eq_true hl
      obtain ⟨v0, hv0⟩ : ∃ v0, v0 = cmpL ws u := ⟨_, rfl⟩
      have HV0 := Lib.hid hv0
      have hlt' : ¬ (ws.length : Int) < (u.length : Int) := by omega
      have hbb : bi = false ∨ ¬ v0 < 0 := by
        cases bi
        · exact .inl rfl
        · exact .inr (by rw [hv0]; exact (HLW.out.2 ws (HBi.out.1 rfl)).2 hl)
      have hwm : ws.length ≤ 1000000 := by omega
      have hum : u.length ≤ 1000000 := by omega
      have HL0 := Lib.hid hl
      clear hcmp hv0 hl
      by_cases hv : v0 < 0
      · have hbf : bi = false := by rcases hbb with h | h; exact h; exact absurd hv h
        subst hbf
        clear hbb
        go_wp2_with fail
        refine (compareInts_any ws u Aw Al cw cl _ _ _ hwm hum HEw6.out HEu.out).mono ?_
        rintro e w7 ⟨rfl, rfl⟩
        rw [← HV0.out]
        by_cases h12 : (12 : Int) < (u.length : Int)
        · exfalso
          first | omega | (have := HL0.out; omega)
        · go_wp2_with fail
          refine (accepts_any ⟨m, (n : Int), (y : Int), rs⟩ u A Al c cl _ _ w6 HCk.out hlc hc HA6.out (fun b hb => by omega) HEu.out (fun b hb => by omega) (word_ok (by omega) HUt.out) (HT.out.below HB6.out HT.out.1)).mono ?_
          rintro e w8 ⟨b8, rfl, h8, hb8⟩
          have hb8t : b8 = true := h8.2 HLW.out.1
          subst hb8t
          have HB8 := Lib.hid (bthen HB6.out hb8 HB6.out.size)
          clear h8 hb8
          go_wp2
          go_ret
          exact ⟨rfl, HB8.out⟩
      · clear hbb
        cases bi
        all_goals
          go_wp2_with fail
          refine (compareInts_any ws u Aw Al cw cl _ _ _ hwm hum HEw6.out HEu.out).mono ?_
          rintro e w7 ⟨rfl, rfl⟩
          rw [← HV0.out]
          by_cases h12 : (12 : Int) < (u.length : Int)
          · exfalso
            first | omega | (have := HL0.out; omega)
          · go_wp2_with fail
            refine (accepts_any ⟨m, (n : Int), (y : Int), rs⟩ u A Al c cl _ _ w6 HCk.out hlc hc HA6.out (fun b hb => by omega) HEu.out (fun b hb => by omega) (word_ok (by omega) HUt.out) (HT.out.below HB6.out HT.out.1)).mono ?_
            rintro e w8 ⟨b8, rfl, h8, hb8⟩
            have hb8t : b8 = true := h8.2 HLW.out.1
            subst hb8t
            have HB8 := Lib.hid (bthen HB6.out hb8 HB6.out.size)
            clear h8 hb8
            go_wp2
            go_ret
            exact ⟨rfl, HB8.out⟩
    · have hl' : ¬ (ws.length : Int) < (u.length : Int) := by omega
      have hl2 : ¬ (ws.length : Int) = (u.length : Int) := by omega
      clear hcmp
      cases bi
      all_goals
        by_cases h12 : (12 : Int) < (u.length : Int)
        · exfalso
          first | omega | (have := HL0.out; omega)
        · go_wp2_with fail
          refine (accepts_any ⟨m, (n : Int), (y : Int), rs⟩ u A Al c cl _ _ w6 HCk.out hlc hc HA6.out (fun b hb => by omega) HEu.out (fun b hb => by omega) (word_ok (by omega) HUt.out) (HT.out.below HB6.out HT.out.1)).mono ?_
          rintro e w8 ⟨b8, rfl, h8, hb8⟩
          have hb8t : b8 = true := h8.2 HLW.out.1
          subst hb8t
          have HB8 := Lib.hid (bthen HB6.out hb8 HB6.out.size)
          clear h8 hb8
          go_wp2
          go_ret
          exact ⟨rfl, HB8.out⟩
theorem usefulLeastWords_row (l m : List Int) (v u : Value) (W : World) (h : Vl W (OldS W) l v) (k : Vl W (OldS W) m u) (hT : Tab32 W) :
    Calls Tryd.prog 4 #[v, u] W fun e W' => e = .returned (.bool true) ∧ Below W.heap.size W W' := by
  obtain ⟨A, c, rfl, k1, k2, hA⟩ := h.slice
  obtain ⟨B, d, rfl, k3, k4, hB⟩ := k.slice
  exact usefulLeastWords_any A B c d l m (OldS W) W k1 k2 hA k3 k4 hB (fun b h => h) hT
end Go.Proofs.YtlgchgpplfhneaaDoor
