/- The walk of the law ClosedStar: a word is in the repetition exactly if it is empty, or divides. -/
import Derived.Test.YtpkfalhpkkponaaDoorCloses
import Derived.Test.YtpkfalhpkkponaaDoorAccepts
import Derived.Test.YtpkfalhpkkponaaDoorMkWord
import Derived.Test.YtpkfalhpkkponaaDoorStarChk
import Derived.Test.YtpkfalhpkkponaaDoorOpen
namespace Go.Proofs.YtpkfalhpkkponaaDoor
open Go.RowKit
set_option linter.unusedVariables false

/-- Some divisions of the word are tried. -/
def StarK (g sg : Gram) (ws : List Int) (k : Nat) : Prop := ws = [] ∨ ∃ j, j < k ∧ Der sg [⟨false, sg.start⟩] (ws.take j) ∧ Der g [⟨false, g.start⟩] (ws.drop j)
theorem starK_next {g sg : Gram} {ws : List Int} {k : Nat} {b x y : Bool} (hb : b = true ↔ StarK g sg ws k) (hx : x = true ↔ Der sg [⟨false, sg.start⟩] (ws.take k)) (hy : y = true ↔ Der g [⟨false, g.start⟩] (ws.drop k)) : (b || (x && y)) = true ↔ StarK g sg ws (k + 1) := by
  rw [Bool.or_eq_true, Bool.and_eq_true, hb, hx, hy]
  constructor
  · rintro ((h | ⟨j, hj, h1, h2⟩) | ⟨h1, h2⟩)
    · exact .inl h
    · exact .inr ⟨j, by omega, h1, h2⟩
    · exact .inr ⟨k, by omega, h1, h2⟩
  · rintro (h | ⟨j, hj, h1, h2⟩)
    · exact .inl (.inl h)
    · by_cases e : j = k
      · subst e; exact .inr ⟨h1, h2⟩
      · exact .inl (.inr ⟨j, by omega, h1, h2⟩)
def StL (g sg : Gram) (ws : List Int) (w7 : World) (v i : Value) (wr : World) : Prop :=
  ∃ (k : Nat) (b : Bool), k ≤ ws.length ∧ i = .int .i64 k ∧ v = .bool b ∧ (b = true ↔ StarK g sg ws k) ∧ Below w7.heap.size w7 wr

set_option maxRecDepth 100000 in
set_option maxHeartbeats 8000000 in
theorem closedStar_any (A0 B0 : Option Addr) (c0 d0 : Nat) (raw word : List Int) (S0 : Nat → Prop) (w : World) (h1 : raw.length ≤ c0) (h2 : c0 ≤ 9223372036854775807) (hA0 : Els w S0 raw A0) (k1 : word.length ≤ d0) (k2 : d0 ≤ 9223372036854775807) (hB0 : Els w S0 word B0) (hS0 : ∀ b, S0 b → b < w.heap.size) (hTab : Tab32 w) :
    Calls Tryd.prog 3 #[.slice A0 raw.length c0, .slice B0 word.length d0] w fun e w' => e = .returned (.bool true) ∧ Below w.heap.size w w' := by
  have HB0w := Lib.hid hB0
  have HS0 := Lib.hid hS0
  have HT := Lib.hid hTab
  clear hTab
  go_enter Tryd.func3, Tryd.ntmps3
  go_wp2_with fail
  refine (grammar_any A0 c0 raw S0 _ h1 h2 hA0 hS0).mono ?_
  rintro e w1 ⟨g, v, hmade, rfl, hvl, hb1⟩
  obtain ⟨s, rfl, _, _, _, hs⟩ := hvl.gram
  obtain ⟨A, c, rfl, hlc, hc, hA⟩ := hs.slice
  have hck := made_ok hmade
  have hck2 := star_check hmade
  have hin := made_in hmade
  have hvg := validG_of hck
  obtain ⟨m, n, s0, rs⟩ := g
  have ht1 : 1 ≤ m := hvg.t1
  have ht8 : m ≤ 8 := hvg.t8
  have hst : 0 ≤ s0 ∧ s0 < n := ⟨hvg.s0, hvg.s1⟩
  obtain ⟨R, hR⟩ : ∃ R, R = (starG ⟨m, n, s0, rs⟩).rules := ⟨_, rfl⟩
  have hsg : starG ⟨m, n, s0, rs⟩ = ⟨m, n + 1, n, R⟩ := by rw [hR]; rfl
  have HSG := Lib.hid hsg
  have HR := Lib.hid hR
  have HIf : Hid (∀ ws, Der ⟨m, n + 1, n, R⟩ [⟨false, n⟩] ws ↔ StarK ⟨m, n, s0, rs⟩ ⟨m, n + 1, n, R⟩ ws ws.length) := Lib.hid (fun ws => by rw [← hsg]; exact star_iff hin hst ws)
  have HCk2' := Lib.hid hck2
  have HCk2 : Hid (checkI ⟨m, n + 1, n, R⟩ = 0) := Lib.hid (by rw [← hsg]; exact hck2)
  have HCk := Lib.hid hck
  dsimp only at hlc hA
  have hba : Below w1.heap.size w1 (w1.alloc (.cells #[.int .i64 m, .int .i64 n, .int .i64 s0, .slice A rs.length c] 25)) := (Below.refl _ _).alloc (Nat.le_refl _) _
  have HA1 := Lib.hid ((hA.keep (S' := fun b => b < w1.heap.size) (fun _ _ _ => rfl) (fun b hb => hb.2)).below hba)
  have HB1 := Lib.hid (bthen hb1 hba hb1.size)
  have hz1 : w.heap.size ≤ w1.heap.size := hb1.size
  have HG1 := Lib.hid (Blk'.new w1 25 #[.int .i64 m, .int .i64 n, .int .i64 s0, .slice A rs.length c])
  obtain ⟨w2, hw2⟩ : ∃ w2 : World, w2 = w1.alloc (.cells #[.int .i64 m, .int .i64 n, .int .i64 s0, .slice A rs.length c] 25) := ⟨_, rfl⟩
  rw [← hw2] at HA1 HB1 HG1
  have HW2 := Lib.hid hw2
  have a0 : w2.cell? ⟨w1.heap.size, 0, none⟩ = some (.int .i64 m) := HG1.out.cell 0
  have a1 : w2.cell? ⟨w1.heap.size, 1, none⟩ = some (.int .i64 n) := HG1.out.cell 1
  have a2 : w2.cell? ⟨w1.heap.size, 2, none⟩ = some (.int .i64 s0) := HG1.out.cell 2
  have a3 : w2.cell? ⟨w1.heap.size, 3, none⟩ = some (.slice A rs.length c) := HG1.out.cell 3
  have zG : w1.heap.size < w2.heap.size := HG1.out.lt
  clear hvl hs hA hb1 hba hmade hA0 hck hck2 hvg hw2 hin hsg hR hB0 hS0
  go_upto_region 2 with (fail)
  rw [← HW2.out]
  go_wp2_with fail
  refine (mkword_any m 6 word B0 d0 S0 w2 ht1 (by omega) (by omega) k1 k2 (HB0w.out.belowB HB1.out HS0.out) (fun b hb => by have := HS0.out b hb; omega)).mono ?_
  rintro e w3 ⟨v, ws, rfl, hwl, hwt, hown, hb3⟩
  obtain ⟨Aw, cw, rfl, hcw1, hcw2, _⟩ := hown.form
  have HEw := Lib.hid (hown.vl.els.2.2.2.keep (S' := fun b => b < w3.heap.size) (fun _ _ _ => rfl) (fun b hb => hb.2))
  have HWt := Lib.hid hwt
  have HB3 := Lib.hid (bthen HB1.out hb3 HB1.out.size)
  have HG3 := Lib.hid (HG1.out.below hb3 HG1.out.lt)
  have HA3 := Lib.hid (HA1.out.belowB hb3 (fun b hb => by omega))
  have hz3 := hb3.size
  have b0 : w3.cell? ⟨w1.heap.size, 0, none⟩ = some (.int .i64 m) := HG3.out.cell 0
  have b1 : w3.cell? ⟨w1.heap.size, 1, none⟩ = some (.int .i64 n) := HG3.out.cell 1
  have b2 : w3.cell? ⟨w1.heap.size, 2, none⟩ = some (.int .i64 s0) := HG3.out.cell 2
  have b3 : w3.cell? ⟨w1.heap.size, 3, none⟩ = some (.slice A rs.length c) := HG3.out.cell 3
  have zG3 : w1.heap.size < w3.heap.size := HG3.out.lt
  clear a0 a1 a2 a3 hwt hown hb3
  go_wp2_with fail
  refine (star_any ⟨m, n, s0, rs⟩ A c _ w3 HCk.out HCk2'.out hlc hc HA3.out (fun b hb => by omega)).mono ?_
  rintro e w4 ⟨A2, c2, rfl, hl2, hc2, hE2, hb4⟩
  rw [← HR.out] at hl2 hE2 ⊢
  dsimp only at hl2 hE2 ⊢
  have hbx : Below w4.heap.size w4 (w4.alloc (.cells #[.int .i64 m, .int .i64 (n + 1), .int .i64 n, .slice A2 R.length c2] 25)) := (Below.refl _ _).alloc (Nat.le_refl _) _
  have HG2 := Lib.hid (Blk'.new w4 25 #[.int .i64 m, .int .i64 (n + 1), .int .i64 n, .slice A2 R.length c2])
  have HA2 := Lib.hid ((hE2.keep (S' := fun b => b < w4.heap.size) (fun _ _ _ => rfl) (fun b hb => hb.2)).below hbx)
  have HB45 := Lib.hid (bthen hb4 hbx hb4.size)
  obtain ⟨w5, hw5⟩ : ∃ w5 : World, w5 = w4.alloc (.cells #[.int .i64 m, .int .i64 (n + 1), .int .i64 n, .slice A2 R.length c2] 25) := ⟨_, rfl⟩
  rw [← hw5] at HG2 HA2 HB45
  have HW5 := Lib.hid hw5
  have HB5 := Lib.hid (bthen HB3.out HB45.out HB3.out.size)
  have HG5 := Lib.hid (HG3.out.below HB45.out HG3.out.lt)
  have HA5 := Lib.hid (HA3.out.belowB HB45.out (fun b hb => by omega))
  have HEw5 := Lib.hid (HEw.out.belowB HB45.out (fun b hb => hb))
  have hz4 := hb4.size
  have d0' : w5.cell? ⟨w4.heap.size, 0, none⟩ = some (.int .i64 m) := HG2.out.cell 0
  have d1 : w5.cell? ⟨w4.heap.size, 1, none⟩ = some (.int .i64 (n + 1)) := HG2.out.cell 1
  have d2 : w5.cell? ⟨w4.heap.size, 2, none⟩ = some (.int .i64 n) := HG2.out.cell 2
  have d3 : w5.cell? ⟨w4.heap.size, 3, none⟩ = some (.slice A2 R.length c2) := HG2.out.cell 3
  have zG5 : w4.heap.size < w5.heap.size := HG2.out.lt
  clear b0 b1 b2 b3 hw5 hbx hb4 hE2
  go_upto_region 4 with (fail)
  rw [← HW5.out]
  go_wp2_with fail
  refine (accepts_any ⟨m, n + 1, n, R⟩ ws A2 Aw c2 cw _ _ w5 HCk2.out hl2 hc2 HA2.out (fun b hb => by omega) HEw5.out (fun b hb => by omega) (word_ok (by omega) HWt.out) (HT.out.below HB5.out HT.out.1)).mono ?_
  rintro e w6 ⟨bi, rfl, hbi, hb6⟩
  have HBi := Lib.hid hbi
  have HB6 := Lib.hid (bthen HB5.out hb6 HB5.out.size)
  have HB56 := Lib.hid hb6
  clear d0' d1 d2 d3 hbi hb6
  go_wp2_with fail
  refine (closes_any _).mono ?_
  rintro e w7 ⟨rfl, hb7⟩
  have HB7 := Lib.hid (bthen HB6.out hb7 HB6.out.size)
  have HB57 := Lib.hid (bthen HB56.out hb7 HB56.out.size)
  clear hb7
  go_wp2_with fail
  go_loopw [11, 49] (fun v i wr => StL ⟨m, n, s0, rs⟩ ⟨m, n + 1, n, R⟩ ws w7 v i wr) (fun _ i _ => ws.length - (intOf i).toNat)
  case atStart =>
    refine ⟨0, decide (ws.length = 0), Nat.zero_le _, rfl, ?_, ?_, Below.refl _ _⟩
    · first | rfl | (congr 1; rw [Bool.eq_iff_iff]; simp; done) | simp
    · rw [decide_eq_true_iff]
      constructor
      · intro h; exact .inl (List.eq_nil_of_length_eq_zero h)
      · rintro (h | ⟨j, hj, _⟩)
        · rw [h]; rfl
        · omega
  case round =>
    obtain ⟨wz, hwz⟩ : ∃ wz : World, wz = wr := ⟨_, rfl⟩
    subst hwz
    obtain ⟨k, b, hk, rfl, rfl, hb, hbz⟩ := hrel
    have HBb := Lib.hid hb
    have HBz := Lib.hid hbz
    have HB5z := Lib.hid (bthen HB57.out hbz HB57.out.size)
    have hz5 : w5.heap.size ≤ wz.heap.size := HB5z.out.size
    clear hb hbz
    by_cases hlt : k < ws.length
    · have HGz := Lib.hid (HG2.out.below HB5z.out HG2.out.lt)
      have z0 : wz.cell? ⟨w4.heap.size, 0, none⟩ = some (.int .i64 m) := HGz.out.cell 0
      have z1 : wz.cell? ⟨w4.heap.size, 1, none⟩ = some (.int .i64 (n + 1)) := HGz.out.cell 1
      have z2 : wz.cell? ⟨w4.heap.size, 2, none⟩ = some (.int .i64 n) := HGz.out.cell 2
      have z3 : wz.cell? ⟨w4.heap.size, 3, none⟩ = some (.slice A2 R.length c2) := HGz.out.cell 3
      have zGz : w4.heap.size < wz.heap.size := HGz.out.lt
      obtain ⟨bw, ow, hAw, _⟩ := HEw5.out (by intro h; rw [h] at hlt; simp at hlt)
      subst hAw
      have HEz := Lib.hid (HEw5.out.belowB HB5z.out (fun b hb => by omega))
      have HEt := Lib.hid (HEz.out.takeS k)
      have HEd : Hid (Els wz (fun b => b < w3.heap.size) (ws.drop k) (some ⟨bw, ow + k, none⟩)) := Lib.hid (by have h := HEz.out.dropS k; rw [show ow + k * Dat.size Int = ow + k from by simp [Dat.size]] at h; exact h)
      have HLt : Hid ((ws.take k).length = k) := Lib.hid (by rw [List.length_take]; omega)
      have HLd : Hid ((ws.drop k).length = ws.length - k) := Lib.hid (by rw [List.length_drop])
      have HOt : Hid (wordE m (ws.take k) 12 = 0) := Lib.hid (word_ok (by rw [List.length_take]; omega) (fun x hx => HWt.out x (List.mem_of_mem_take hx)))
      have HOd : Hid (wordE m (ws.drop k) 12 = 0) := Lib.hid (word_ok (by rw [List.length_drop]; omega) (fun x hx => HWt.out x (List.mem_of_mem_drop hx)))
      have hk0 : (0 : Int) ≤ (k : Int) := by omega
      have hk1 : (k : Int) ≤ (cw : Int) := by omega
      have hk2 : (k : Int) ≤ (ws.length : Int) := by omega
      have hk3 : (cw = k) = False := eq_false (by omega)
      have hzt : Hid (∀ b, b < w3.heap.size → b < wz.heap.size) := Lib.hid (fun b hb => by omega)
      go_wp2_with fail
      refine wp_region_noPanic ?_
      refine wp_region_held_drew (S := (fun w' => w'.cell? ⟨w4.heap.size, 0, none⟩ = some (.int .i64 m) ∧ w'.cell? ⟨w4.heap.size, 1, none⟩ = some (.int .i64 (n + 1)) ∧ w'.cell? ⟨w4.heap.size, 2, none⟩ = some (.int .i64 n) ∧ w'.cell? ⟨w4.heap.size, 3, none⟩ = some (.slice A2 R.length c2))) (by kernel_rfl) ?ha (fun hHeld => ?ba)
      case ha => ((try dsimp only); go_keep)
      refine take_run (i := 0) (v := ?va0) rfl (by kernel_rfl) (by kernel_rfl) (by kernel_rfl) (fun _ _ _ h => h) (by rfl) ?ya0 (by assumption) ?ra0
      case ya0 => (intro w hSw; (try dsimp only at hSw); go_simp; try with_reducible rfl)
      try simp only [Act.put, List.setIfInBounds_toArray, List.set_cons_zero, List.set_cons_succ]
      refine take_run (i := 1) (v := ?va1) rfl (by kernel_rfl) (by kernel_rfl) (by kernel_rfl) (fun _ _ _ h => h) (by rfl) ?ya1 (by assumption) ?ra1
      case ya1 => (intro w hSw; (try dsimp only at hSw); go_simp; try with_reducible rfl)
      try simp only [Act.put, List.setIfInBounds_toArray, List.set_cons_zero, List.set_cons_succ]
      refine take_run (i := 2) (v := ?va2) rfl (by kernel_rfl) (by kernel_rfl) (by kernel_rfl) (fun _ _ _ h => h) (by rfl) ?ya2 (by assumption) ?ra2
      case ya2 => (intro w hSw; (try dsimp only at hSw); go_simp; try with_reducible rfl)
      try simp only [Act.put, List.setIfInBounds_toArray, List.set_cons_zero, List.set_cons_succ]
      refine take_run (i := 3) (v := ?va3) rfl (by kernel_rfl) (by kernel_rfl) (by kernel_rfl) (fun _ _ _ h => h) (by rfl) ?ya3 (by assumption) ?ra3
      case ya3 => (intro w hSw; (try dsimp only at hSw); go_simp; try with_reducible rfl)
      try simp only [Act.put, List.setIfInBounds_toArray, List.set_cons_zero, List.set_cons_succ]
      refine take_call (i := 4) rfl (by kernel_rfl) (by rfl) (fun Kq hK => ?_)
      go_simp
      go_at_call 12
      have hcall := accepts_any ⟨m, n + 1, n, R⟩ (ws.take k) A2 (some ⟨bw, ow, none⟩) c2 cw _ _ wz.drew HCk2.out hl2 hc2 (HA2.out.belowB HB5z.out.drew (fun b hb => by omega)) (fun b hb => by show b < wz.heap.size; omega) (HEt.out.belowB (Below.refl wz.heap.size wz).drew hzt.out) hzt.out HOt.out (HT.out.below (bthen HB5.out HB5z.out.drew HB5.out.size) HT.out.1)
      rw [HLt.out] at hcall
      refine hcall.mono ?_
      clear hcall
      rintro e w8 ⟨x1, rfl, hx1, hb8⟩
      have HX1 := Lib.hid hx1
      have HB8 := Lib.hid (bundrew hb8)
      have HB58 := Lib.hid (bthen HB5z.out HB8.out HB5z.out.size)
      have y0 := (HB8.out.cell (p := ⟨w4.heap.size, 0, none⟩) zGz).trans z0
      have y1 := (HB8.out.cell (p := ⟨w4.heap.size, 1, none⟩) zGz).trans z1
      have y2 := (HB8.out.cell (p := ⟨w4.heap.size, 2, none⟩) zGz).trans z2
      have y3 := (HB8.out.cell (p := ⟨w4.heap.size, 3, none⟩) zGz).trans z3
      have HG8 := Lib.hid (HG5.out.below HB58.out HG5.out.lt)
      have x00 : w8.cell? ⟨w1.heap.size, 0, none⟩ = some (.int .i64 m) := HG8.out.cell 0
      have x10 : w8.cell? ⟨w1.heap.size, 1, none⟩ = some (.int .i64 n) := HG8.out.cell 1
      have x20 : w8.cell? ⟨w1.heap.size, 2, none⟩ = some (.int .i64 s0) := HG8.out.cell 2
      have x30 : w8.cell? ⟨w1.heap.size, 3, none⟩ = some (.slice A rs.length c) := HG8.out.cell 3
      have zG8 : w1.heap.size < w8.heap.size := HG8.out.lt
      have zH8 : w4.heap.size < w8.heap.size := by have := HB8.out.size; omega
      have hz8 : wz.heap.size ≤ w8.heap.size := HB8.out.size
      clear hx1 hb8 z0 z1 z2 z3
      refine hK.out _ _ ?ha4 (fun hHeld => ?ra4)
      case ha4 => ((try dsimp only); go_keep)
      clear hK Kq
      try simp only [Act.put, List.setIfInBounds_toArray, List.set_cons_zero, List.set_cons_succ]
      refine take_run (i := 5) (v := ?va5) rfl (by kernel_rfl) (by kernel_rfl) (by kernel_rfl) (fun _ _ _ h => h) (by rfl) ?ya5 (by assumption) ?ra5
      case ya5 => (intro w hSw; (try dsimp only at hSw); go_simp; try with_reducible rfl)
      try simp only [Act.put, List.setIfInBounds_toArray, List.set_cons_zero, List.set_cons_succ]
      refine take_run (i := 6) (v := ?va6) rfl (by kernel_rfl) (by kernel_rfl) (by kernel_rfl) (fun _ _ _ h => h) (by rfl) ?ya6 (by assumption) ?ra6
      case ya6 => (intro w hSw; (try dsimp only at hSw); go_simp; try with_reducible rfl)
      try simp only [Act.put, List.setIfInBounds_toArray, List.set_cons_zero, List.set_cons_succ]
      refine take_run (i := 7) (v := ?va7) rfl (by kernel_rfl) (by kernel_rfl) (by kernel_rfl) (fun _ _ _ h => h) (by rfl) ?ya7 (by assumption) ?ra7
      case ya7 => (intro w hSw; (try dsimp only at hSw); go_simp; try with_reducible rfl)
      try simp only [Act.put, List.setIfInBounds_toArray, List.set_cons_zero, List.set_cons_succ]
      refine take_run (i := 8) (v := ?va8) rfl (by kernel_rfl) (by kernel_rfl) (by kernel_rfl) (fun _ _ _ h => h) (by rfl) ?ya8 (by assumption) ?ra8
      case ya8 => (intro w hSw; (try dsimp only at hSw); go_simp; try with_reducible rfl)
      try simp only [Act.put, List.setIfInBounds_toArray, List.set_cons_zero, List.set_cons_succ]
      refine take_run (i := 9) (v := ?va9) rfl (by kernel_rfl) (by kernel_rfl) (by kernel_rfl) (fun _ _ _ h => h) (by rfl) ?ya9 (by assumption) ?ra9
      case ya9 => (intro w hSw; (try dsimp only at hSw); go_simp; try with_reducible rfl)
      try simp only [Act.put, List.setIfInBounds_toArray, List.set_cons_zero, List.set_cons_succ]
      refine wpAnyH_done (by kernel_rfl) ?_ _
      refine NoPanic.normal ?_
      go_wp2_with fail
      refine wp_region_noPanic ?_
      refine wp_region_held_drew (S := (fun w' => w'.cell? ⟨w1.heap.size, 0, none⟩ = some (.int .i64 m) ∧ w'.cell? ⟨w1.heap.size, 1, none⟩ = some (.int .i64 n) ∧ w'.cell? ⟨w1.heap.size, 2, none⟩ = some (.int .i64 s0) ∧ w'.cell? ⟨w1.heap.size, 3, none⟩ = some (.slice A rs.length c))) (by kernel_rfl) ?he (fun hHeld => ?be)
      case he => ((try dsimp only); go_keep)
      refine take_run (i := 0) (v := ?ve0) rfl (by kernel_rfl) (by kernel_rfl) (by kernel_rfl) (fun _ _ _ h => h) (by rfl) ?ye0 (by assumption) ?re0
      case ye0 => (intro w hSw; (try dsimp only at hSw); go_simp; try with_reducible rfl)
      try simp only [Act.put, List.setIfInBounds_toArray, List.set_cons_zero, List.set_cons_succ]
      refine take_run (i := 1) (v := ?ve1) rfl (by kernel_rfl) (by kernel_rfl) (by kernel_rfl) (fun _ _ _ h => h) (by rfl) ?ye1 (by assumption) ?re1
      case ye1 => (intro w hSw; (try dsimp only at hSw); go_simp; try with_reducible rfl)
      try simp only [Act.put, List.setIfInBounds_toArray, List.set_cons_zero, List.set_cons_succ]
      refine take_run (i := 2) (v := ?ve2) rfl (by kernel_rfl) (by kernel_rfl) (by kernel_rfl) (fun _ _ _ h => h) (by rfl) ?ye2 (by assumption) ?re2
      case ye2 => (intro w hSw; (try dsimp only at hSw); go_simp; try with_reducible rfl)
      try simp only [Act.put, List.setIfInBounds_toArray, List.set_cons_zero, List.set_cons_succ]
      refine take_run (i := 3) (v := ?ve3) rfl (by kernel_rfl) (by kernel_rfl) (by kernel_rfl) (fun _ _ _ h => h) (by rfl) ?ye3 (by assumption) ?re3
      case ye3 => (intro w hSw; (try dsimp only at hSw); go_simp; try with_reducible rfl)
      try simp only [Act.put, List.setIfInBounds_toArray, List.set_cons_zero, List.set_cons_succ]
      refine take_call (i := 4) rfl (by kernel_rfl) (by rfl) (fun Kq hK => ?_)
      go_simp
      go_at_call 12
      have hcall := accepts_any ⟨m, n, s0, rs⟩ (ws.drop k) A (some ⟨bw, ow + k, none⟩) c (cw - k) _ _ w8.drew HCk.out hlc hc (HA5.out.belowB HB58.out.drew (fun b hb => by omega)) (fun b hb => by show b < w8.heap.size; omega) (HEd.out.belowB HB8.out.drew hzt.out) (fun b hb => by show b < w8.heap.size; have := hzt.out b hb; omega) HOd.out (HT.out.below (bthen HB5.out HB58.out.drew HB5.out.size) HT.out.1)
      rw [HLd.out] at hcall
      refine hcall.mono ?_
      clear hcall
      rintro e w9 ⟨x2, rfl, hx2, hb9⟩
      have HX2 := Lib.hid hx2
      have HB9 := Lib.hid (bundrew hb9)
      have HB2e := Lib.hid (bthen HBz.out (bthen HB8.out HB9.out HB8.out.size) HBz.out.size)
      have u0 := (HB9.out.cell (p := ⟨w1.heap.size, 0, none⟩) zG8).trans x00
      have u1 := (HB9.out.cell (p := ⟨w1.heap.size, 1, none⟩) zG8).trans x10
      have u2 := (HB9.out.cell (p := ⟨w1.heap.size, 2, none⟩) zG8).trans x20
      have u3 := (HB9.out.cell (p := ⟨w1.heap.size, 3, none⟩) zG8).trans x30
      clear hx2 hb9 x00 x10 x20 x30 y0 y1 y2 y3
      refine hK.out _ _ ?he4 (fun hHeld => ?re4)
      case he4 => ((try dsimp only); go_keep)
      clear hK Kq
      try simp only [Act.put, List.setIfInBounds_toArray, List.set_cons_zero, List.set_cons_succ]
      refine take_run (i := 5) (v := ?ve5) rfl (by kernel_rfl) (by kernel_rfl) (by kernel_rfl) (fun _ _ _ h => h) (by rfl) ?ye5 (by assumption) ?re5
      case ye5 => (intro w hSw; (try dsimp only at hSw); go_simp; try with_reducible rfl)
      try simp only [Act.put, List.setIfInBounds_toArray, List.set_cons_zero, List.set_cons_succ]
      refine take_run (i := 6) (v := ?ve6) rfl (by kernel_rfl) (by kernel_rfl) (by kernel_rfl) (fun _ _ _ h => h) (by rfl) ?ye6 (by assumption) ?re6
      case ye6 => (intro w hSw; (try dsimp only at hSw); go_simp; try with_reducible rfl)
      try simp only [Act.put, List.setIfInBounds_toArray, List.set_cons_zero, List.set_cons_succ]
      refine take_run (i := 7) (v := ?ve7) rfl (by kernel_rfl) (by kernel_rfl) (by kernel_rfl) (fun _ _ _ h => h) (by rfl) ?ye7 (by assumption) ?re7
      case ye7 => (intro w hSw; (try dsimp only at hSw); go_simp; try with_reducible rfl)
      try simp only [Act.put, List.setIfInBounds_toArray, List.set_cons_zero, List.set_cons_succ]
      refine take_run (i := 8) (v := ?ve8) rfl (by kernel_rfl) (by kernel_rfl) (by kernel_rfl) (fun _ _ _ h => h) (by rfl) ?ye8 (by assumption) ?re8
      case ye8 => (intro w hSw; (try dsimp only at hSw); go_simp; try with_reducible rfl)
      try simp only [Act.put, List.setIfInBounds_toArray, List.set_cons_zero, List.set_cons_succ]
      refine take_run (i := 9) (v := ?ve9) rfl (by kernel_rfl) (by kernel_rfl) (by kernel_rfl) (fun _ _ _ h => h) (by rfl) ?ye9 (by assumption) ?re9
      case ye9 => (intro w hSw; (try dsimp only at hSw); go_simp; try with_reducible rfl)
      try simp only [Act.put, List.setIfInBounds_toArray, List.set_cons_zero, List.set_cons_succ]
      refine wpAnyH_done (by kernel_rfl) ?_ _
      refine NoPanic.normal ?_
      cases b <;> cases x1 <;> cases x2 <;>
        · go_wp2
          go_roundw
          case rel => exact ⟨k + 1, _, hlt, by go_num, rfl, (starK_next HBb.out HX1.out HX2.out), HB2e.out⟩
          case measure => simp [intOf]; omega
    · have hkk : k = ws.length := by omega
      have hbb : bi = b := by
        rw [Bool.eq_iff_iff, HBi.out, HBb.out, HIf.out, hkk]
      subst hbb
      have HE := Lib.hid (bthen HB7.out HBz.out HB7.out.size)
      clear hkk
      cases bi
      · go_wp2
        go_ret
        exact ⟨rfl, HE.out⟩
      · go_wp2
        go_ret
        exact ⟨rfl, HE.out⟩
theorem closedStar_row (l m : List Int) (v u : Value) (W : World) (h : Vl W (OldS W) l v) (k : Vl W (OldS W) m u) (hT : Tab32 W) :
    Calls Tryd.prog 3 #[v, u] W fun e W' => e = .returned (.bool true) ∧ Below W.heap.size W W' := by
  obtain ⟨A, c, rfl, k1, k2, hA⟩ := h.slice
  obtain ⟨B, d, rfl, k3, k4, hB⟩ := k.slice
  exact closedStar_any A B c d l m (OldS W) W k1 k2 hA k3 k4 hB (fun b h => h) hT
end Go.Proofs.YtpkfalhpkkponaaDoor
