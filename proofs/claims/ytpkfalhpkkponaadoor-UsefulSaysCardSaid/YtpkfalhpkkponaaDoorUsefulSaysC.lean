/- The walk of the law UsefulSays. -/
import Derived.Test.YtpkfalhpkkponaaDoorRLeast
import Derived.Test.YtpkfalhpkkponaaDoorLeast
import Derived.Test.YtpkfalhpkkponaaDoorUsefulBad
import Derived.Test.YtpkfalhpkkponaaDoorRRea
import Derived.Test.YtpkfalhpkkponaaDoorGramErr
import Derived.Test.YtpkfalhpkkponaaDoorSimple
import Derived.Test.YtpkfalhpkkponaaDoorOpen
import Derived.Test.YtpkfalhpkkponaaDoorEqInt
import Derived.Test.YtpkfalhpkkponaaDoorEqBoolB
namespace Go.Proofs.YtpkfalhpkkponaaDoor
open Go.RowKit
set_option linter.unusedVariables false

theorem usays1_any (l : Int) (sl : Value) (w : World) (hsl : ∃ A k c, sl = .slice A k c) : Calls Tryd.prog 33 #[.agg #[.int .i64 l, sl]] w fun e w' => e = .returned (.bool true) ∧ Below w.heap.size w w' := by
  obtain ⟨A, k, c, rfl⟩ := hsl
  go_enter Tryd.func33, Tryd.ntmps33
  go_wp2
  go_ret
  exact ⟨rfl, (Below.refl _ _).alloc (Nat.le_refl _) _⟩
theorem simple_rin : RulesIn simpleG 1 := by
  intro q hq
  simp [simpleG] at hq
  rcases hq with rfl | rfl <;> simp
theorem simple_lfix : LFix simpleG 1 [0] := ⟨⟨rfl, by simp, by simp [cntN, pw]⟩, ⟨1, by decide⟩, by decide⟩
theorem simple_lens {l : List Int} (h : LFix simpleG 1 l) : l = [0] := h.same simple_lfix simple_rin
theorem eq_trueI (A A' : Option Addr) (xs ys : List Int) (n n' c c' : Nat) (S S' : Nat → Prop) (w : World) (he : xs = ys) (hn : n = xs.length) (hn' : n' = ys.length) (hm : xs.length ≤ 1000000) (hA : Els w S xs A) (hA' : Els w S' ys A') :
    Calls Tryd.prog 26 #[.slice A n c, .slice A' n' c'] w fun e w' => e = .returned (.bool true) ∧ Below w.heap.size w w' := by
  subst he
  refine (equalInt_any A A' xs xs n n' c c' S S' w hn hn' (by omega) (by omega) hA hA').mono ?_
  rintro e w' ⟨rfl, hb⟩
  exact ⟨by simp, hb⟩
theorem eq_trueBl (A A' : Option Addr) (xs ys : List Bool) (n n' c c' : Nat) (S S' : Nat → Prop) (w : World) (he : xs = ys) (hn : n = xs.length) (hn' : n' = ys.length) (hm : xs.length ≤ 1000000) (hA : Els w S xs A) (hA' : Els w S' ys A') :
    Calls Tryd.prog 34 #[.slice A n c, .slice A' n' c'] w fun e w' => e = .returned (.bool true) ∧ Below w.heap.size w w' := by
  subst he
  refine (equalBool_any A A' xs xs n n' c c' S S' w hn hn' (by omega) (by omega) hA hA').mono ?_
  rintro e w' ⟨rfl, hb⟩
  exact ⟨by simp, hb⟩
theorem els_b {w : World} {S : Nat → Prop} {b : Nat} {l : List Bool} (hb : Blk' w b 4 (bcells l)) (hS : S b) : Els w S l (some ⟨b, 0, none⟩) := fun _ => ⟨b, 0, rfl, hS, fun i x hi => ⟨[.bool x], rfl, fun j u hu => by
  match j, hu with
  | 0, hu =>
    simp at hu; subst hu
    have e : 0 + i * Dat.size Bool + 0 = i := by show 0 + i * 1 + 0 = i; omega
    rw [e, hb.cell]
    exact bcells_get hi⟩⟩
theorem els_i {w : World} {S : Nat → Prop} {b : Nat} {t : TypeId} {l : List Int} (hb : Blk' w b t (icells l)) (h : ∀ v ∈ l, I64 v) (hS : S b) : Els w S l (some ⟨b, 0, none⟩) := els_islack (z := #[]) (by rw [Array.append_empty]; exact hb) h hS
theorem LFix.i64 {g : Gram} {n : Nat} {L : List Int} (h : LFix g n L) (hn : n ≤ 10) : ∀ v ∈ L, I64 v := fun v hv => by
  have h1 := h.shape.low v hv
  have h2 := h.shape.high v hv
  have h3 := h.shape.cnt
  have h4 := pw_mono (show cntN L ≤ 10 by omega)
  have h5 := pw_ten
  unfold I64
  omega

theorem Own.kept_b {X : Nat → Prop} {w w' : World} {S S' : Nat → Prop} {base : Nat} {e : TypeId} {v : Value} {xs : List Bool} (h : Own w S base e v xs) (k : Kept X w w') (hx : ∀ b, v.ownBlock = some b → ¬ X b) : Own w' S' base e v xs := by
  obtain ⟨css, h1, h2, h3⟩ := h
  refine ⟨css, ⟨h1.1, ?_⟩, h2, fun i x cs hi hc => h3 i x cs hi hc⟩
  rcases h1.2 with q | ⟨g, cap, cur, q1, q2, q3, q4⟩
  · exact .inl q
  · have hg : v.ownBlock = some g := by rw [q1]; rfl
    exact .inr ⟨g, cap, cur, q1, q2, (k.block g (h1.lt g hg).2 (hx g hg)).trans q3, q4⟩

set_option maxRecDepth 100000 in
set_option maxHeartbeats 10000000 in
theorem usefulSays_any (g : Gram) (k : Int) (A : Option Addr) (c : Nat) (S : Nat → Prop) (w : World) (h64 : I64 g.terms ∧ I64 g.nons ∧ I64 g.start) (hlc : g.rules.length ≤ c) (hc : c ≤ 9223372036854775807) (hA : Els w S g.rules A) (hS : ∀ b, S b → b < w.heap.size) :
    Calls Tryd.prog 7 #[.agg #[.int .i64 g.terms, .int .i64 g.nons, .int .i64 g.start, .slice A g.rules.length c], .int .i64 k] w fun e w' => e = .returned (.bool true) ∧ Below w.heap.size w w' := by
  obtain ⟨gt, gn, gs, rs⟩ := g
  dsimp only at *
  have hba : Below w.heap.size w (w.alloc (.cells #[.int .i64 gt, .int .i64 gn, .int .i64 gs, .slice A rs.length c] 25)) := (Below.refl _ _).alloc (Nat.le_refl _) _
  have HB0 := Lib.hid hba
  have HG0 := Lib.hid (Blk'.new w 25 #[.int .i64 gt, .int .i64 gn, .int .i64 gs, .slice A rs.length c])
  have HA := Lib.hid hA
  have HS := Lib.hid hS
  have H64 := Lib.hid h64
  clear hba hA hS h64
  go_enter Tryd.func7, Tryd.ntmps7
  go_wp2_with fail
  refine (simple_any _).mono ?_
  rintro e w1 ⟨As, rfl, hEs, hb1⟩
  have HEs := Lib.hid hEs
  have HB1 := Lib.hid (bthen HB0.out hb1 (by simp))
  have HG1 := Lib.hid (HG0.out.below hb1 HG0.out.lt)
  clear hEs hb1
  go_wp2_with fail
  refine (lengthsPub_any simpleG 1 As 2 _ w1 rfl simpleC (by decide) (by decide) HEs.out (fun b hb => hb.2)).mono ?_
  rintro e w2 ⟨bl, l2, rfl, hfx, hL2, hge, hb2⟩
  obtain rfl := simple_lens hfx
  have HB2 := Lib.hid (bthen HB1.out hb2 HB1.out.size)
  have HG2 := Lib.hid (HG1.out.below hb2 HG1.out.lt)
  have hba3 : Below w2.heap.size w2 (w2.alloc (.cells #[.int .i64 0] 3)) := (Below.refl _ _).alloc (Nat.le_refl _) _
  have i0 : ∀ v ∈ [(0 : Int)], I64 v := fun v hv => by simp at hv; subst hv; exact ⟨by omega, by omega⟩
  have HE1 := Lib.hid (els_i (S := fun b => b = bl) (hL2.below hba3 hL2.lt) i0 rfl)
  have HE2 := Lib.hid (els_i (S := fun b => b = w2.heap.size) (l := [0]) (Blk'.new w2 3 #[.int .i64 0]) i0 rfl)
  have HB3 := Lib.hid (bthen HB2.out hba3 HB2.out.size)
  have HG3 := Lib.hid (HG2.out.below hba3 HG2.out.lt)
  clear hfx hL2 hb2 hba3 HEs i0 hge
  go_wp2_with fail
  refine (eq_trueI _ _ [0] [0] 1 1 _ _ _ _ _ rfl rfl rfl (by decide) HE1.out HE2.out).mono ?_
  rintro e w4 ⟨rfl, hb4⟩
  have HB4 := Lib.hid (bthen HB3.out hb4 HB3.out.size)
  have HG4 := Lib.hid (HG3.out.below hb4 HG3.out.lt)
  clear hb4 HE1 HE2 HB3 HG3 HB2 HG2 HB1 HG1 HB0 HG0
  by_cases hce : checkI ⟨gt, gn, gs, rs⟩ = 0
  · have hv := validG_of hce
    obtain ⟨n, hn⟩ : ∃ n : Nat, gn = (n : Int) := ⟨gn.toNat, by have := hv.n1; dsimp only at this; omega⟩
    subst hn
    have hri := hv.rulesIn rfl
    have hn10 : 1 ≤ n ∧ n ≤ 10 := by have := hv.n1; have := hv.n10; dsimp only at *; omega
    have hgs : 0 ≤ gs ∧ gs.toNat < n := by have := hv.s0; have := hv.s1; dsimp only at *; omega
    have h8 : ∀ q ∈ rs, ∀ s ∈ q.right, s.term = true → 0 ≤ s.n ∧ s.n < 8 := fun q hq s hs ht => by
      have h1 := (hv.rules q hq).2.2.2 s hs
      have := hv.t8
      simp [ht] at h1
      dsimp only at *
      omega
    obtain ⟨L, hL⟩ := lfix_ex ⟨gt, (n : Int), gs, rs⟩ n hn10.2 (fun q hq => ⟨(hri q hq).2.1, (hri q hq).2.2.1⟩)
    have HLn : Hid (L.length = n) := Lib.hid hL.shape.len
    have HL64 := Lib.hid (hL.i64 hn10.2)
    have HGs := Lib.hid hgs
    have H8 := Lib.hid h8
    have HRI := Lib.hid hri
    have HC := Lib.hid hce
    have HL := Lib.hid hL
    have HN := Lib.hid hn10
    have HRl : Hid (rs.length ≤ 1000) := Lib.hid (by have := hv.len; dsimp only at this; omega)
    have hni : (n : Int) ≤ 10 := by omega
    clear hv hri hce hL h8 hgs
    have c4_0 : w4.cell? ⟨w.heap.size, 0, none⟩ = some (.int .i64 gt) := HG4.out.cell 0
    have c4_1 : w4.cell? ⟨w.heap.size, 1, none⟩ = some (.int .i64 (n : Int)) := HG4.out.cell 1
    have c4_2 : w4.cell? ⟨w.heap.size, 2, none⟩ = some (.int .i64 gs) := HG4.out.cell 2
    have c4_3 : w4.cell? ⟨w.heap.size, 3, none⟩ = some (.slice A rs.length c) := HG4.out.cell 3
    have zG4 : w.heap.size < w4.heap.size := HG4.out.lt
    go_wp2_with fail
    refine (ends_any ⟨gt, (n : Int), gs, rs⟩ n A c S _ rfl HC.out hlc hc (HA.out.belowB HB4.out HS.out) (fun b hb => by have := HS.out b hb; have := HB4.out.size; omega)).mono ?_
    rintro e w5 ⟨ve, le, rfl, hfe, howe, hb5⟩
    obtain rfl := hfe.same HL.out HRI.out
    obtain ⟨Ae, ke, rfl, hke1, hke2, _⟩ := howe.form
    have hmn : (le.map fun x => decide (0 ≤ x)).length = n := by rw [List.length_map]; exact HLn.out
    rw [hmn] at howe hke1 ⊢
    have HB5 := Lib.hid (bthen HB4.out hb5 HB4.out.size)
    have HG5 := Lib.hid (HG4.out.below hb5 HG4.out.lt)
    have HOe := Lib.hid (howe)
    clear c4_0 c4_1 c4_2 c4_3
    clear hb5
    clear hfe howe
    have c5_0 : w5.cell? ⟨w.heap.size, 0, none⟩ = some (.int .i64 gt) := HG5.out.cell 0
    have c5_1 : w5.cell? ⟨w.heap.size, 1, none⟩ = some (.int .i64 (n : Int)) := HG5.out.cell 1
    have c5_2 : w5.cell? ⟨w.heap.size, 2, none⟩ = some (.int .i64 gs) := HG5.out.cell 2
    have c5_3 : w5.cell? ⟨w.heap.size, 3, none⟩ = some (.slice A rs.length c) := HG5.out.cell 3
    have zG5 : w.heap.size < w5.heap.size := HG5.out.lt
    have hLn := HLn.out
    go_wp2_with fail
    refine (reachedPub_any ⟨gt, (n : Int), gs, rs⟩ n A c S _ rfl HC.out hlc hc (HA.out.belowB HB5.out HS.out) (fun b hb => by have := HS.out b hb; have := HB5.out.size; omega)).mono ?_
    rintro e w6 ⟨br, sr, rfl, hfr, hRb, hRge, hb6⟩
    have HB6 := Lib.hid (bthen HB5.out hb6 HB5.out.size)
    have HG6 := Lib.hid (HG5.out.below hb6 HG5.out.lt)
    have HRb := Lib.hid (hRb)
    have HRs := Lib.hid (hfr.rset HRI.out)
    have HOe6 := Lib.hid (HOe.out.below hb6 (Nat.le_refl _))
    clear c5_0 c5_1 c5_2 c5_3
    clear hb6
    clear hfr hRb HOe hRge
    have c6_0 : w6.cell? ⟨w.heap.size, 0, none⟩ = some (.int .i64 gt) := HG6.out.cell 0
    have c6_1 : w6.cell? ⟨w.heap.size, 1, none⟩ = some (.int .i64 (n : Int)) := HG6.out.cell 1
    have c6_2 : w6.cell? ⟨w.heap.size, 2, none⟩ = some (.int .i64 gs) := HG6.out.cell 2
    have c6_3 : w6.cell? ⟨w.heap.size, 3, none⟩ = some (.slice A rs.length c) := HG6.out.cell 3
    have zG6 : w.heap.size < w6.heap.size := HG6.out.lt
    go_wp2_with fail
    refine (lengthsPub_any ⟨gt, (n : Int), gs, rs⟩ n A c S _ rfl HC.out hlc hc (HA.out.belowB HB6.out HS.out) (fun b hb => by have := HS.out b hb; have := HB6.out.size; omega)).mono ?_
    rintro e w7 ⟨bL, lL, rfl, hfl, hLb, hLge, hb7⟩
    obtain rfl := hfl.same HL.out HRI.out
    have HB7 := Lib.hid (bthen HB6.out hb7 HB6.out.size)
    have HG7 := Lib.hid (HG6.out.below hb7 HG6.out.lt)
    have HLb := Lib.hid (hLb)
    have HRb7 := Lib.hid (HRb.out.below hb7 HRb.out.lt)
    have HOe7 := Lib.hid (HOe6.out.below hb7 (Nat.le_refl _))
    clear c6_0 c6_1 c6_2 c6_3
    clear hb7
    clear hfl hLb HRb HOe6 hLge
    have c7_0 : w7.cell? ⟨w.heap.size, 0, none⟩ = some (.int .i64 gt) := HG7.out.cell 0
    have c7_1 : w7.cell? ⟨w.heap.size, 1, none⟩ = some (.int .i64 (n : Int)) := HG7.out.cell 1
    have c7_2 : w7.cell? ⟨w.heap.size, 2, none⟩ = some (.int .i64 gs) := HG7.out.cell 2
    have c7_3 : w7.cell? ⟨w.heap.size, 3, none⟩ = some (.slice A rs.length c) := HG7.out.cell 3
    have zG7 : w.heap.size < w7.heap.size := HG7.out.lt
    go_wp2_with fail
    refine (leastPub_any ⟨gt, (n : Int), gs, rs⟩ n k A c S _ lL HL.out rfl HC.out hlc hc (HA.out.belowB HB7.out HS.out) (fun b hb => by have := HS.out b hb; have := HB7.out.size; omega)).mono ?_
    rintro e w8 hret
    obtain ⟨hb8, Aw, nw, cw, vw, he8⟩ : Below w7.heap.size w7 w8 ∧ ∃ Aw nw cw vw, e = .returned (.tuple #[.slice Aw nw cw, .int .i64 vw]) := by
      rcases hret with ⟨h1, ⟨_, h⟩ | ⟨_, _, h⟩ | ⟨_, _, h⟩ | ⟨_, _, _, W, K, A1, c1, h, _⟩⟩
      · exact ⟨h1, _, _, _, _, h⟩
      · exact ⟨h1, _, _, _, _, h⟩
      · exact ⟨h1, _, _, _, _, h⟩
      · exact ⟨h1, _, _, _, _, h⟩
    subst he8
    have HB8 := Lib.hid (bthen HB7.out hb8 HB7.out.size)
    have HG8 := Lib.hid (HG7.out.below hb8 HG7.out.lt)
    have HLb8 := Lib.hid (HLb.out.below hb8 HLb.out.lt)
    have HRb8 := Lib.hid (HRb7.out.below hb8 HRb7.out.lt)
    have HOe8 := Lib.hid (HOe7.out.below hb8 (Nat.le_refl _))
    have HRet := Lib.hid (hret)
    clear c7_0 c7_1 c7_2 c7_3
    clear hb8
    clear hret HLb HRb7 HOe7
    have c8_0 : w8.cell? ⟨w.heap.size, 0, none⟩ = some (.int .i64 gt) := HG8.out.cell 0
    have c8_1 : w8.cell? ⟨w.heap.size, 1, none⟩ = some (.int .i64 (n : Int)) := HG8.out.cell 1
    have c8_2 : w8.cell? ⟨w.heap.size, 2, none⟩ = some (.int .i64 gs) := HG8.out.cell 2
    have c8_3 : w8.cell? ⟨w.heap.size, 3, none⟩ = some (.slice A rs.length c) := HG8.out.cell 3
    have zG8 : w.heap.size < w8.heap.size := HG8.out.lt
    go_wp2_with fail
    refine (gramErr_any ⟨gt, (n : Int), gs, rs⟩ A c S _ H64.out hlc hc (HA.out.belowB HB8.out HS.out) (fun b hb => by have := HS.out b hb; have := HB8.out.size; omega)).mono ?_
    rintro e w9 ⟨rfl, hb9⟩
    rw [HC.out]
    have HB9 := Lib.hid (bthen HB8.out hb9 HB8.out.size)
    have HG9 := Lib.hid (HG8.out.below hb9 HG8.out.lt)
    have Hb89 := Lib.hid (hb9)
    have HLb9 := Lib.hid (HLb8.out.below hb9 HLb8.out.lt)
    have HRb9 := Lib.hid (HRb8.out.below hb9 HRb8.out.lt)
    have HOe9 := Lib.hid (HOe8.out.below hb9 (Nat.le_refl _))
    clear c8_0 c8_1 c8_2 c8_3
    clear hb9
    clear HLb8 HRb8 HOe8
    have c9_0 : w9.cell? ⟨w.heap.size, 0, none⟩ = some (.int .i64 gt) := HG9.out.cell 0
    have c9_1 : w9.cell? ⟨w.heap.size, 1, none⟩ = some (.int .i64 (n : Int)) := HG9.out.cell 1
    have c9_2 : w9.cell? ⟨w.heap.size, 2, none⟩ = some (.int .i64 gs) := HG9.out.cell 2
    have c9_3 : w9.cell? ⟨w.heap.size, 3, none⟩ = some (.slice A rs.length c) := HG9.out.cell 3
    have zG9 : w.heap.size < w9.heap.size := HG9.out.lt
    go_wp2_with fail
    refine (rlengths_any ⟨gt, (n : Int), gs, rs⟩ n A c S _ lL rfl HN.out hlc hc (HA.out.belowB HB9.out HS.out) (fun b hb => by have := HS.out b hb; have := HB9.out.size; omega) HRl.out HRI.out HL.out).mono ?_
    rintro e w10 ⟨bM, cM, zM, rfl, hMb, hM1, hM2, hMge, hb10⟩
    have HB10 := Lib.hid (bthen HB9.out hb10 HB9.out.size)
    have HG10 := Lib.hid (HG9.out.below hb10 HG9.out.lt)
    have HMb := Lib.hid (hMb)
    have Hb8x := Lib.hid (bthen Hb89.out hb10 Hb89.out.size)
    have HLb10 := Lib.hid (HLb9.out.below hb10 HLb9.out.lt)
    have HRb10 := Lib.hid (HRb9.out.below hb10 HRb9.out.lt)
    have HOe10 := Lib.hid (HOe9.out.below hb10 (Nat.le_refl _))
    clear c9_0 c9_1 c9_2 c9_3
    clear hb10
    clear hMb HLb9 HRb9 HOe9 Hb89 hMge
    have c10_0 : w10.cell? ⟨w.heap.size, 0, none⟩ = some (.int .i64 gt) := HG10.out.cell 0
    have c10_1 : w10.cell? ⟨w.heap.size, 1, none⟩ = some (.int .i64 (n : Int)) := HG10.out.cell 1
    have c10_2 : w10.cell? ⟨w.heap.size, 2, none⟩ = some (.int .i64 gs) := HG10.out.cell 2
    have c10_3 : w10.cell? ⟨w.heap.size, 3, none⟩ = some (.slice A rs.length c) := HG10.out.cell 3
    have zG10 : w.heap.size < w10.heap.size := HG10.out.lt
    have hLA9 : bL < w10.heap.size := HLb10.out.lt
    have hRA9 : br < w10.heap.size := HRb10.out.lt
    have hOA9 : ∀ k, (Value.slice Ae n ke).ownBlock = some k → k ≠ w10.heap.size := fun k hk e => by have := (HOe10.out.block k hk).2; omega
    have hmk := mkBools n (by omega)
    obtain ⟨wA, hwA⟩ : ∃ wA : World, wA = w10.alloc (.cells (bcells (List.replicate n false)) 4) := ⟨_, rfl⟩
    have HWA := Lib.hid hwA
    have hbA : Below w10.heap.size w10 wA := by rw [hwA]; exact (Below.refl _ _).alloc (Nat.le_refl _) _
    have HDA : Hid (Blk' wA w10.heap.size 4 (bcells (List.replicate n false))) := Lib.hid (by rw [hwA]; exact Blk'.new _ _ _)
    have HBA := Lib.hid (bthen HB10.out hbA HB10.out.size)
    have HGA := Lib.hid (HG10.out.below hbA HG10.out.lt)
    have HMA := Lib.hid (HMb.out.below hbA HMb.out.lt)
    have HLA := Lib.hid (HLb10.out.below hbA HLb10.out.lt)
    have HRA := Lib.hid (HRb10.out.below hbA HRb10.out.lt)
    have HOA := Lib.hid (HOe10.out.below hbA (Nat.le_refl _))
    have Hb8A := Lib.hid (bthen Hb8x.out hbA Hb8x.out.size)
    have zM10 : bM < w10.heap.size := HMb.out.lt
    have z810 : w8.heap.size ≤ w10.heap.size := Hb8x.out.size
    clear hwA hbA HMb HLb10 HRb10 HOe10 Hb8x c10_0 c10_1 c10_2 c10_3
    go_wp2_with fail
    rw [← HWA.out]
    clear hmk
    go_loopw [99] (fun v wr => ∃ (i : Nat) (es : List Bool), i ≤ n ∧ v = .int .i64 i ∧ Blk' wr w10.heap.size 4 (bcells es) ∧ es.length = n ∧ (∀ j, j < i → es[j]? = some (decide (0 ≤ lL.getD j 0))) ∧ Kept (fun b => b = w10.heap.size) wA wr) (fun v _ => n - (intOf v).toNat)
    case atStart => exact ⟨0, _, Nat.zero_le _, rfl, HDA.out, by simp, fun j hj => by omega, Kept.refl _ _⟩
    case round =>
      obtain ⟨wo, hwo⟩ : ∃ wo : World, wo = wr := ⟨_, rfl⟩
      subst hwo
      obtain ⟨i, es, hi, rfl, hD, hel, hfr, hk⟩ := hrel
      have HD := Lib.hid hD
      have HFr := Lib.hid hfr
      have HKo := Lib.hid hk
      have HMo := Lib.hid (HMA.out.kept hk (by omega))
      have hzo : wA.heap.size ≤ wo.heap.size := hk.size
      have fD := hD.frozen i
      have zD : w10.heap.size < wo.heap.size := hD.lt
      have zMo : bM < wo.heap.size := by have := HMo.out.lt; omega
      have HEl := Lib.hid hel
      clear hfr hk hel
      by_cases hlt : i < n
      · have hi0 : (0 : Int) ≤ (i : Int) := by omega
        have hi1 : (i : Int) < (n : Int) := by omega
        obtain ⟨x, hx⟩ := get_some (show i < lL.length by omega)
        have cx : wo.cell? ⟨bM, i, none⟩ = some (.int .i64 x) := (HMo.out.cell _).trans ((slack_get (by rw [icells_size, hLn]; exact hlt)).trans (icells_get hx))
        obtain ⟨y, hy⟩ := get_some (show i < es.length by have := HEl.out; omega)
        have cy : wo.cell? ⟨w10.heap.size, i, none⟩ = some (.bool y) := (hD.cell _).trans (bcells_get hy)
        have HX : Hid (lL.getD i 0 = x) := Lib.hid (by rw [List.getD_eq_getElem?_getD, hx]; rfl)
        clear hx hy hD
        go_wp2
        go_roundw
        case rel =>
          refine ⟨i + 1, es.set i (decide (0 ≤ x)), hlt, by go_num, by have h := HD.out.set_ i (.bool (decide (0 ≤ x))); rw [bcells_set] at h; exact h, by rw [List.length_set]; exact HEl.out, fun j hj => ?_, HKo.out.setCell (p := ⟨w10.heap.size, i, none⟩) (.inl rfl) _⟩
          by_cases e : i = j
          · subst e; rw [List.getElem?_set_self (by have := HEl.out; omega), HX.out]
          · rw [List.getElem?_set_ne e]; exact HFr.out j (by omega)
        case measure => simp [intOf]; omega
      · have HEs : Hid (lL.map (fun x => decide (0 ≤ x)) = es) := Lib.hid (by
          apply List.ext_getElem?
          intro j
          by_cases hj : j < n
          · rw [HFr.out j (by omega), List.getElem?_map, List.getElem?_eq_getElem (by omega : j < lL.length), List.getD_eq_getElem?_getD, List.getElem?_eq_getElem (by omega : j < lL.length)]
            rfl
          · rw [List.getElem?_eq_none (by simp; omega), List.getElem?_eq_none (by have := HEl.out; omega)])
        have hel : es.length = n := HEl.out
        obtain ⟨w11, hw11⟩ : ∃ w11 : World, w11 = wo := ⟨_, rfl⟩
        subst hw11
        have HB11 := Lib.hid (HBA.out.trans (HKo.out.to_below (B := w.heap.size) (fun b (hb : b = w10.heap.size) => by have := HB10.out.size; omega) HBA.out.size))
        have Hb8B := Lib.hid (Hb8A.out.trans (HKo.out.to_below (B := w8.heap.size) (fun b (hb : b = w10.heap.size) => by have := z810; omega) Hb8A.out.size))
        have HG11 := Lib.hid (HGA.out.kept HKo.out (by omega))
        have HL11 := Lib.hid (HLA.out.kept HKo.out (by have := HLA.out.lt; have h9 := hLA9; omega))
        have HR11 := Lib.hid (HRA.out.kept HKo.out (by have h9 := hRA9; omega))
        have HO11 : Hid (Own w11 (fun _ => False) w4.heap.size 4 (.slice Ae n ke) (lL.map fun x => decide (0 ≤ x))) := Lib.hid (Own.kept_b HOA.out HKo.out hOA9)
        have zG11 : w.heap.size < w11.heap.size := HG11.out.lt
        have c11_0 : w11.cell? ⟨w.heap.size, 0, none⟩ = some (.int .i64 gt) := HG11.out.cell 0
        have c11_1 : w11.cell? ⟨w.heap.size, 1, none⟩ = some (.int .i64 (n : Int)) := HG11.out.cell 1
        have c11_2 : w11.cell? ⟨w.heap.size, 2, none⟩ = some (.int .i64 gs) := HG11.out.cell 2
        have c11_3 : w11.cell? ⟨w.heap.size, 3, none⟩ = some (.slice A rs.length c) := HG11.out.cell 3
        clear HFr HKo hD HGA HLA HRA HOA HMA HDA Hb8A
        go_wp2_with fail
        refine (rreached_any ⟨gt, (n : Int), gs, rs⟩ (fun _ => true) _ #[] n A c S _ rfl (by have := HN.out; omega) HGs.out hlc hc (HA.out.belowB HB11.out HS.out) (fun b hb => by have := HS.out b hb; have := HB11.out.size; omega) HRI.out (isGo_of Tryd.func33 (by kernel_rfl) (by kernel_rfl)) (fun x W _ _ A' c' _ _ _ => usays1_any x.left _ W ⟨_, _, _, rfl⟩)).mono ?_
        rintro e w12 ⟨bI, sI, rfl, hrs, hIb, hIge, hb12⟩
        have HB12 := Lib.hid (bthen HB11.out hb12 HB11.out.size)
        have HG12 := Lib.hid (HG11.out.below hb12 HG11.out.lt)
        have HI12 := Lib.hid (hIb)
        have Hb8C := Lib.hid (bthen Hb8B.out hb12 Hb8B.out.size)
        have HL12 := Lib.hid (HL11.out.below hb12 HL11.out.lt)
        have HR12 := Lib.hid (HR11.out.below hb12 HR11.out.lt)
        have HO12 := Lib.hid (HO11.out.below hb12 (Nat.le_refl _))
        have HD12 := Lib.hid (HD.out.below hb12 HD.out.lt)
        have HMo12 := Lib.hid (HMo.out.below hb12 HMo.out.lt)
        have HSr := Lib.hid (HRs.out.same hrs)
        have HSn := Lib.hid (hrs.1)
        clear c11_0 c11_1 c11_2 c11_3
        clear hb12
        clear hIb HL11 HR11 HO11 HD HMo Hb8B hrs hIge
        have c12_0 : w12.cell? ⟨w.heap.size, 0, none⟩ = some (.int .i64 gt) := HG12.out.cell 0
        have c12_1 : w12.cell? ⟨w.heap.size, 1, none⟩ = some (.int .i64 (n : Int)) := HG12.out.cell 1
        have c12_2 : w12.cell? ⟨w.heap.size, 2, none⟩ = some (.int .i64 gs) := HG12.out.cell 2
        have c12_3 : w12.cell? ⟨w.heap.size, 3, none⟩ = some (.slice A rs.length c) := HG12.out.cell 3
        have zG12 : w.heap.size < w12.heap.size := HG12.out.lt
        have hsl : sI.length = n := HSn.out
        go_wp2_with fail
        refine (eq_trueBl _ _ (lL.map fun x => decide (0 ≤ x)) es _ _ _ _ _ (fun b => b = w10.heap.size) w12 HEs.out (by rw [List.length_map, hLn]) hel.symm (by rw [List.length_map]; omega) HO12.out.vl.els.2.2.2 (els_b HD12.out rfl)).mono ?_
        rintro e w13 ⟨rfl, hb13⟩
        have HB13 := Lib.hid (bthen HB12.out hb13 HB12.out.size)
        have HG13 := Lib.hid (HG12.out.below hb13 HG12.out.lt)
        have HL13 := Lib.hid (HL12.out.below hb13 HL12.out.lt)
        have HR13 := Lib.hid (HR12.out.below hb13 HR12.out.lt)
        have HI13 := Lib.hid (HI12.out.below hb13 HI12.out.lt)
        have HMo13 := Lib.hid (HMo12.out.below hb13 HMo12.out.lt)
        have Hb8D := Lib.hid (bthen Hb8C.out hb13 Hb8C.out.size)
        clear c12_0 c12_1 c12_2 c12_3
        clear hb13
        have c13_0 : w13.cell? ⟨w.heap.size, 0, none⟩ = some (.int .i64 gt) := HG13.out.cell 0
        have c13_1 : w13.cell? ⟨w.heap.size, 1, none⟩ = some (.int .i64 (n : Int)) := HG13.out.cell 1
        have c13_2 : w13.cell? ⟨w.heap.size, 2, none⟩ = some (.int .i64 gs) := HG13.out.cell 2
        have c13_3 : w13.cell? ⟨w.heap.size, 3, none⟩ = some (.slice A rs.length c) := HG13.out.cell 3
        have zG13 : w.heap.size < w13.heap.size := HG13.out.lt
        go_wp2_with fail
        refine (eq_trueBl _ _ sr sI _ _ _ _ (fun b => b = br) (fun b => b = bI) w13 HSr.out (by rw [HSr.out, hsl]) hsl.symm (by rw [HSr.out]; omega) (els_b HR13.out rfl) (els_b HI13.out rfl)).mono ?_
        rintro e w14 ⟨rfl, hb14⟩
        have HB14 := Lib.hid (bthen HB13.out hb14 HB13.out.size)
        have HG14 := Lib.hid (HG13.out.below hb14 HG13.out.lt)
        have HL14 := Lib.hid (HL13.out.below hb14 HL13.out.lt)
        have HMo14 := Lib.hid (HMo13.out.below hb14 HMo13.out.lt)
        have Hb8E := Lib.hid (bthen Hb8D.out hb14 Hb8D.out.size)
        clear c13_0 c13_1 c13_2 c13_3
        clear hb14
        have c14_0 : w14.cell? ⟨w.heap.size, 0, none⟩ = some (.int .i64 gt) := HG14.out.cell 0
        have c14_1 : w14.cell? ⟨w.heap.size, 1, none⟩ = some (.int .i64 (n : Int)) := HG14.out.cell 1
        have c14_2 : w14.cell? ⟨w.heap.size, 2, none⟩ = some (.int .i64 gs) := HG14.out.cell 2
        have c14_3 : w14.cell? ⟨w.heap.size, 3, none⟩ = some (.slice A rs.length c) := HG14.out.cell 3
        have zG14 : w.heap.size < w14.heap.size := HG14.out.lt
        go_wp2_with fail
        refine (eq_trueI _ _ lL lL _ _ _ _ (fun b => b = bL) (fun b => b = bM) w14 rfl hLn.symm hLn.symm (by omega) (els_i HL14.out HL64.out rfl) (els_islack HMo14.out HL64.out rfl)).mono ?_
        rintro e w15 ⟨rfl, hb15⟩
        have HB15 := Lib.hid (bthen HB14.out hb15 HB14.out.size)
        have HG15 := Lib.hid (HG14.out.below hb15 HG14.out.lt)
        have HMo15 := Lib.hid (HMo14.out.below hb15 HMo14.out.lt)
        have Hb8F := Lib.hid (bthen Hb8E.out hb15 Hb8E.out.size)
        clear c14_0 c14_1 c14_2 c14_3
        clear hb15
        have c15_0 : w15.cell? ⟨w.heap.size, 0, none⟩ = some (.int .i64 gt) := HG15.out.cell 0
        have c15_1 : w15.cell? ⟨w.heap.size, 1, none⟩ = some (.int .i64 (n : Int)) := HG15.out.cell 1
        have c15_2 : w15.cell? ⟨w.heap.size, 2, none⟩ = some (.int .i64 gs) := HG15.out.cell 2
        have c15_3 : w15.cell? ⟨w.heap.size, 3, none⟩ = some (.slice A rs.length c) := HG15.out.cell 3
        have zG15 : w.heap.size < w15.heap.size := HG15.out.lt
        clear HL12 HL13 HL14 HR12 HR13 HI12 HI13 HMo12 HMo13 HMo14 HO12 HD12 HSr Hb8C Hb8D Hb8E HEs HEl
        rcases HRet.out.2 with ⟨hk9, he⟩ | ⟨hk9, hl9, he⟩ | ⟨hk9, hl9, he⟩ | ⟨hk9, hl9, hl10, W, K, A1, c1, he, hsn, hst, hc1, hc2, hul, hE1⟩
        · obtain ⟨⟨rfl, rfl, rfl⟩, rfl⟩ : (Aw = none ∧ nw = 0 ∧ cw = 0) ∧ vw = 1 := by simpa using he
          by_cases hk0 : k < 0
          · have d0 : decide (k < 0) = true := decide_eq_true hk0
            clear he
            go_wp2
            go_ret
            exact ⟨rfl, HB15.out⟩
          · have d0 : decide (k < 0) = false := decide_eq_false hk0
            have d1 : decide ((n : Int) ≤ k) = true := decide_eq_true (by omega)
            have hkn : (n : Int) ≤ k := by omega
            clear he
            go_wp2
            go_ret
            exact ⟨rfl, HB15.out⟩
        · obtain ⟨⟨rfl, rfl, rfl⟩, rfl⟩ : (Aw = none ∧ nw = 0 ∧ cw = 0) ∧ vw = 5 := by simpa using he
          have hk0 : ¬ k < 0 := by omega
          have hkn : ¬ (n : Int) ≤ k := by omega
          have hk1 : 0 ≤ k := hk9.1
          have hk2 : k < (n : Int) := hk9.2
          have d0 : decide (k < 0) = false := decide_eq_false hk0
          have d1 : decide ((n : Int) ≤ k) = false := decide_eq_false hkn
          obtain ⟨l, hl⟩ := get_some (show k.toNat < lL.length by omega)
          have cl_ : w15.cell? ⟨bM, k.toNat, none⟩ = some (.int .i64 l) := (HMo15.out.cell _).trans ((slack_get (by rw [icells_size, hLn]; omega)).trans (icells_get hl))
          have zM15 : bM < w15.heap.size := HMo15.out.lt
          have hel9 : lL.getD k.toNat 0 = l := by rw [List.getD_eq_getElem?_getD, hl]; rfl
          rw [hel9] at hl9
          clear hl
          have d2 : decide (l < 0) = true := decide_eq_true (by omega)
          have hl0 : l < 0 := by omega
          clear he hl9
          go_wp2
          go_ret
          exact ⟨rfl, HB15.out⟩
        · obtain ⟨⟨rfl, rfl, rfl⟩, rfl⟩ : (Aw = none ∧ nw = 0 ∧ cw = 0) ∧ vw = 2 := by simpa using he
          have hk0 : ¬ k < 0 := by omega
          have hkn : ¬ (n : Int) ≤ k := by omega
          have hk1 : 0 ≤ k := hk9.1
          have hk2 : k < (n : Int) := hk9.2
          have d0 : decide (k < 0) = false := decide_eq_false hk0
          have d1 : decide ((n : Int) ≤ k) = false := decide_eq_false hkn
          obtain ⟨l, hl⟩ := get_some (show k.toNat < lL.length by omega)
          have cl_ : w15.cell? ⟨bM, k.toNat, none⟩ = some (.int .i64 l) := (HMo15.out.cell _).trans ((slack_get (by rw [icells_size, hLn]; omega)).trans (icells_get hl))
          have zM15 : bM < w15.heap.size := HMo15.out.lt
          have hel9 : lL.getD k.toNat 0 = l := by rw [List.getD_eq_getElem?_getD, hl]; rfl
          rw [hel9] at hl9
          clear hl
          have d2 : decide (l < 0) = false := decide_eq_false (by omega)
          have d3 : decide (2000 < l) = true := decide_eq_true (by omega)
          have hl0 : ¬ l < 0 := by omega
          have hl2 : 2000 < l := by omega
          clear he hl9
          go_wp2
          go_ret
          exact ⟨rfl, HB15.out⟩
        · obtain ⟨⟨rfl, rfl, rfl⟩, rfl⟩ : (Aw = A1 ∧ nw = (W.getD k.toNat []).length ∧ cw = c1) ∧ vw = 0 := by simpa using he
          have hk0 : ¬ k < 0 := by omega
          have hkn : ¬ (n : Int) ≤ k := by omega
          have hk1 : 0 ≤ k := hk9.1
          have hk2 : k < (n : Int) := hk9.2
          have d0 : decide (k < 0) = false := decide_eq_false hk0
          have d1 : decide ((n : Int) ≤ k) = false := decide_eq_false hkn
          obtain ⟨l, hl⟩ := get_some (show k.toNat < lL.length by omega)
          have cl_ : w15.cell? ⟨bM, k.toNat, none⟩ = some (.int .i64 l) := (HMo15.out.cell _).trans ((slack_get (by rw [icells_size, hLn]; omega)).trans (icells_get hl))
          have zM15 : bM < w15.heap.size := HMo15.out.lt
          have hel9 : lL.getD k.toNat 0 = l := by rw [List.getD_eq_getElem?_getD, hl]; rfl
          rw [hel9] at hl9 hl10
          clear hl
          have d2 : decide (l < 0) = false := decide_eq_false (by omega)
          have d3 : decide (2000 < l) = false := decide_eq_false (by omega)
          have hl0 : ¬ l < 0 := by omega
          have hl2 : ¬ 2000 < l := by omega
          obtain ⟨u, hu⟩ : ∃ u, u = W.getD k.toNat [] := ⟨_, rfl⟩
          have HU := Lib.hid hu
          rw [← hu] at hul hE1 hc1 ⊢
          have HE1 := Lib.hid (hE1.below Hb8F.out)
          have HSn2 := Lib.hid (And.intro hsn hst)
          obtain ⟨m, rfl⟩ : ∃ m : Nat, k = (m : Int) := ⟨k.toNat, by omega⟩
          rw [Int.toNat_natCast] at cl_
          have HRl2 := Lib.hid (rleast_any ⟨gt, (n : Int), gs, rs⟩ n A c S w15 lL m (by omega) rfl HN.out hlc hc (HA.out.belowB HB15.out HS.out) (fun b hb => by have := HS.out b hb; have := HB15.out.size; omega) HRl.out HRI.out H8.out HL.out)
          have hm0 : (0 : Int) ≤ (m : Int) := by omega
          clear he hl9 hl10 hu hE1 hsn hst
          go_wp2_with fail
          refine HRl2.out.mono ?_
          rintro e w16 ⟨W', K', A2, c2, rfl, hsn', hst', hc3, hc4, hE2, hb16⟩
          have hone : W'.getD m [] = u := by rw [HU.out]; show _ = W.getD ((m : Int)).toNat []; rw [Int.toNat_natCast]; exact least_one HL.out HRI.out hsn' hst' HSn2.out.1 HSn2.out.2 m
          rw [hone] at hE2 hc3 ⊢
          have HE2 := Lib.hid hE2
          have HE3 := Lib.hid (HE1.out.below hb16)
          have HB16 := Lib.hid (bthen HB15.out hb16 HB15.out.size)
          clear hsn' hst' hone hE2 hb16 c15_0 c15_1 c15_2 c15_3
          go_wp2_with fail
          refine (eq_trueI _ _ u u _ _ _ _ _ _ w16 rfl rfl rfl (by omega) HE3.out HE2.out).mono ?_
          rintro e w17 ⟨rfl, hb17⟩
          have HB17 := Lib.hid (bthen HB16.out hb17 HB16.out.size)
          clear hb17
          go_wp2
          go_ret
          exact ⟨rfl, HB17.out⟩
  · obtain ⟨ce, hE⟩ : ∃ ce, checkI ⟨gt, gn, gs, rs⟩ = ce := ⟨_, rfl⟩
    have HE := Lib.hid hE
    have HCe := Lib.hid hce
    rw [hE] at hce
    have hne : (ce != 0) = true := by simpa using hce
    have hself : (ce == ce) = true := by simp
    clear hE
    have c4_0 : w4.cell? ⟨w.heap.size, 0, none⟩ = some (.int .i64 gt) := HG4.out.cell 0
    have c4_1 : w4.cell? ⟨w.heap.size, 1, none⟩ = some (.int .i64 gn) := HG4.out.cell 1
    have c4_2 : w4.cell? ⟨w.heap.size, 2, none⟩ = some (.int .i64 gs) := HG4.out.cell 2
    have c4_3 : w4.cell? ⟨w.heap.size, 3, none⟩ = some (.slice A rs.length c) := HG4.out.cell 3
    have zG4 : w.heap.size < w4.heap.size := HG4.out.lt
    go_wp2_with fail
    refine (endsBad ⟨gt, gn, gs, rs⟩ A c S _ HCe.out hlc hc (HA.out.belowB HB4.out HS.out)).mono ?_
    rintro e w5 ⟨rfl, hb5⟩
    rw [HE.out]
    have HB5 := Lib.hid (bthen HB4.out hb5 HB4.out.size)
    have HG5 := Lib.hid (HG4.out.below hb5 HG4.out.lt)
    clear c4_0 c4_1 c4_2 c4_3
    clear hb5
    have c5_0 : w5.cell? ⟨w.heap.size, 0, none⟩ = some (.int .i64 gt) := HG5.out.cell 0
    have c5_1 : w5.cell? ⟨w.heap.size, 1, none⟩ = some (.int .i64 gn) := HG5.out.cell 1
    have c5_2 : w5.cell? ⟨w.heap.size, 2, none⟩ = some (.int .i64 gs) := HG5.out.cell 2
    have c5_3 : w5.cell? ⟨w.heap.size, 3, none⟩ = some (.slice A rs.length c) := HG5.out.cell 3
    have zG5 : w.heap.size < w5.heap.size := HG5.out.lt
    go_wp2_with fail
    refine (reachedBad ⟨gt, gn, gs, rs⟩ A c S _ HCe.out hlc hc (HA.out.belowB HB5.out HS.out)).mono ?_
    rintro e w6 ⟨rfl, hb6⟩
    rw [HE.out]
    have HB6 := Lib.hid (bthen HB5.out hb6 HB5.out.size)
    have HG6 := Lib.hid (HG5.out.below hb6 HG5.out.lt)
    clear c5_0 c5_1 c5_2 c5_3
    clear hb6
    have c6_0 : w6.cell? ⟨w.heap.size, 0, none⟩ = some (.int .i64 gt) := HG6.out.cell 0
    have c6_1 : w6.cell? ⟨w.heap.size, 1, none⟩ = some (.int .i64 gn) := HG6.out.cell 1
    have c6_2 : w6.cell? ⟨w.heap.size, 2, none⟩ = some (.int .i64 gs) := HG6.out.cell 2
    have c6_3 : w6.cell? ⟨w.heap.size, 3, none⟩ = some (.slice A rs.length c) := HG6.out.cell 3
    have zG6 : w.heap.size < w6.heap.size := HG6.out.lt
    go_wp2_with fail
    refine (lengthsBad ⟨gt, gn, gs, rs⟩ A c S _ HCe.out hlc hc (HA.out.belowB HB6.out HS.out)).mono ?_
    rintro e w7 ⟨rfl, hb7⟩
    rw [HE.out]
    have HB7 := Lib.hid (bthen HB6.out hb7 HB6.out.size)
    have HG7 := Lib.hid (HG6.out.below hb7 HG6.out.lt)
    clear c6_0 c6_1 c6_2 c6_3
    clear hb7
    have c7_0 : w7.cell? ⟨w.heap.size, 0, none⟩ = some (.int .i64 gt) := HG7.out.cell 0
    have c7_1 : w7.cell? ⟨w.heap.size, 1, none⟩ = some (.int .i64 gn) := HG7.out.cell 1
    have c7_2 : w7.cell? ⟨w.heap.size, 2, none⟩ = some (.int .i64 gs) := HG7.out.cell 2
    have c7_3 : w7.cell? ⟨w.heap.size, 3, none⟩ = some (.slice A rs.length c) := HG7.out.cell 3
    have zG7 : w.heap.size < w7.heap.size := HG7.out.lt
    go_wp2_with fail
    refine (leastBad ⟨gt, gn, gs, rs⟩ k A c S _ HCe.out hlc hc (HA.out.belowB HB7.out HS.out)).mono ?_
    rintro e w8 ⟨rfl, hb8⟩
    rw [HE.out]
    have HB8 := Lib.hid (bthen HB7.out hb8 HB7.out.size)
    have HG8 := Lib.hid (HG7.out.below hb8 HG7.out.lt)
    clear c7_0 c7_1 c7_2 c7_3
    clear hb8
    have c8_0 : w8.cell? ⟨w.heap.size, 0, none⟩ = some (.int .i64 gt) := HG8.out.cell 0
    have c8_1 : w8.cell? ⟨w.heap.size, 1, none⟩ = some (.int .i64 gn) := HG8.out.cell 1
    have c8_2 : w8.cell? ⟨w.heap.size, 2, none⟩ = some (.int .i64 gs) := HG8.out.cell 2
    have c8_3 : w8.cell? ⟨w.heap.size, 3, none⟩ = some (.slice A rs.length c) := HG8.out.cell 3
    have zG8 : w.heap.size < w8.heap.size := HG8.out.lt
    go_wp2_with fail
    refine (gramErr_any ⟨gt, gn, gs, rs⟩ A c S _ H64.out hlc hc (HA.out.belowB HB8.out HS.out) (fun b hb => by have := HS.out b hb; have := HB8.out.size; omega)).mono ?_
    rintro e w9 ⟨rfl, hb9⟩
    rw [HE.out]
    have HB9 := Lib.hid (bthen HB8.out hb9 HB8.out.size)
    have HG9 := Lib.hid (HG8.out.below hb9 HG8.out.lt)
    clear c8_0 c8_1 c8_2 c8_3
    clear hb9
    have c9_0 : w9.cell? ⟨w.heap.size, 0, none⟩ = some (.int .i64 gt) := HG9.out.cell 0
    have c9_1 : w9.cell? ⟨w.heap.size, 1, none⟩ = some (.int .i64 gn) := HG9.out.cell 1
    have c9_2 : w9.cell? ⟨w.heap.size, 2, none⟩ = some (.int .i64 gs) := HG9.out.cell 2
    have c9_3 : w9.cell? ⟨w.heap.size, 3, none⟩ = some (.slice A rs.length c) := HG9.out.cell 3
    have zG9 : w.heap.size < w9.heap.size := HG9.out.lt
    go_wp2
    go_ret
    exact ⟨rfl, HB9.out⟩

theorem usefulSays_row (g : Gram) (k : Int) (v0 v1 : Value) (W : World) (h0 : Vl W (OldS W) g v0) (h1 : Vl W (OldS W) k v1) :
    Calls Tryd.prog 7 #[v0, v1] W fun e W' => e = .returned (.bool true) ∧ Below W.heap.size W W' := by
  obtain ⟨s, rfl, k1, k2, k3, hs⟩ := h0.gram
  obtain ⟨A, c, rfl, hlc, hc, hA⟩ := hs.slice
  obtain ⟨rfl, _⟩ := h1.int
  exact usefulSays_any g k A c (OldS W) W ⟨k1, k2, k3⟩ hlc hc hA (fun b h => h)
end Go.Proofs.YtpkfalhpkkponaaDoor
