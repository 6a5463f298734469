/- The walk of the law ClosedConcat: a word is in the concatenation exactly if it divides into words of both grammars. -/
import Derived.Test.YtpkfalhpkkponaaDoorClosedTwo
import Derived.Test.YtpkfalhpkkponaaDoorSameK
import Derived.Test.YtpkfalhpkkponaaDoorCloses
import Derived.Test.YtpkfalhpkkponaaDoorAccepts
import Derived.Test.YtpkfalhpkkponaaDoorMkWord
import Derived.Test.YtpkfalhpkkponaaDoorOpen
namespace Go.Proofs.YtpkfalhpkkponaaDoor
open Go.RowKit
set_option linter.unusedVariables false

/-- Some divisions of the word are tried. -/
def ConK (g h : Gram) (ws : List Int) (k : Nat) : Prop := ∃ j, j < k ∧ Der g [⟨false, g.start⟩] (ws.take j) ∧ Der h [⟨false, h.start⟩] (ws.drop j)
theorem conK_next {g h : Gram} {ws : List Int} {k : Nat} {b x y : Bool} (hb : b = true ↔ ConK g h ws k) (hx : x = true ↔ Der g [⟨false, g.start⟩] (ws.take k)) (hy : y = true ↔ Der h [⟨false, h.start⟩] (ws.drop k)) : (b || (x && y)) = true ↔ ConK g h ws (k + 1) := by
  rw [Bool.or_eq_true, Bool.and_eq_true, hb, hx, hy]
  constructor
  · rintro (⟨j, hj, h1, h2⟩ | ⟨h1, h2⟩)
    · exact ⟨j, by omega, h1, h2⟩
    · exact ⟨k, by omega, h1, h2⟩
  · rintro ⟨j, hj, h1, h2⟩
    by_cases e : j = k
    · subst e; exact .inr ⟨h1, h2⟩
    · exact .inl ⟨j, by omega, h1, h2⟩
theorem own_addr {α : Type} [Dat α] {w : World} {S : Nat → Prop} {base : Nat} {e : TypeId} {A : Option Addr} {n c : Nat} {xs : List α} (h : Own w S base e (.slice A n c) xs) : c = 0 ∨ ∃ bw ow, A = some ⟨bw, ow, none⟩ := by
  obtain ⟨css, h1, _⟩ := h
  rcases h1.2 with ⟨he, hn⟩ | ⟨g, cap, cur, he, _⟩
  · injection he with e1 e2 e3
    exact .inl e3
  · injection he with e1 e2 e3
    exact .inr ⟨g, 0, e1⟩
def CnL (g h : Gram) (ws : List Int) (w7 : World) (v i : Value) (wr : World) : Prop :=
  ∃ (k : Nat) (b : Bool), k ≤ ws.length + 1 ∧ i = .int .i64 k ∧ v = .bool b ∧ (b = true ↔ ConK g h ws k) ∧ Below w7.heap.size w7 wr

set_option maxRecDepth 100000 in
set_option maxHeartbeats 4000000 in
theorem closedConcat_any (A0 B0 D0 : Option Addr) (c0 d0 f0 : Nat) (ra rb word : List Int) (S0 : Nat → Prop) (w : World) (h1 : ra.length ≤ c0) (h2 : c0 ≤ 9223372036854775807) (hA0 : Els w S0 ra A0) (i1 : rb.length ≤ d0) (i2 : d0 ≤ 9223372036854775807) (hB0 : Els w S0 rb B0) (k1 : word.length ≤ f0) (k2 : f0 ≤ 9223372036854775807) (hD0 : Els w S0 word D0) (hS0 : ∀ b, S0 b → b < w.heap.size) (hTab : Tab32 w) :
    Calls Tryd.prog 4 #[.slice A0 ra.length c0, .slice B0 rb.length d0, .slice D0 word.length f0] w fun e w' => e = .returned (.bool true) ∧ Below w.heap.size w w' := by
  have HD0 := Lib.hid hD0
  have HS0 := Lib.hid hS0
  have HT := Lib.hid hTab
  clear hTab
  go_enter Tryd.func4, Tryd.ntmps4
  go_wp2_with fail
  refine (same_any A0 B0 c0 d0 ra rb S0 _ h1 h2 hA0 i1 i2 hB0 hS0).mono ?_
  rintro e w1 ⟨g, h, A, B, c, d, hmade, hmade2, hte, rfl, hlc, hc, hld, hd, hA, hB, hb1⟩
  have hck := made_ok hmade
  have hckh := made_ok hmade2
  have hck2 := concat_check hmade hmade2 hte
  have hin := made_in hmade
  have hin2 := made_in hmade2
  have hvg := validG_of hck
  have hvh := validG_of hckh
  obtain ⟨m, n, s0, rs⟩ := g
  obtain ⟨m2, n2, s2, rs2⟩ := h
  dsimp only at hte
  have hte' := hte.symm
  clear hte
  subst hte'
  have ht1 : 1 ≤ m := hvg.t1
  have ht8 : m ≤ 8 := hvg.t8
  have hst : 0 ≤ s0 ∧ s0 < n := ⟨hvg.s0, hvg.s1⟩
  have hst2 : 0 ≤ s2 ∧ s2 < n2 := ⟨hvh.s0, hvh.s1⟩
  obtain ⟨R, hR⟩ : ∃ R, R = (concatG ⟨m, n, s0, rs⟩ ⟨m, n2, s2, rs2⟩).rules := ⟨_, rfl⟩
  have hsg : concatG ⟨m, n, s0, rs⟩ ⟨m, n2, s2, rs2⟩ = ⟨m, n + n2 + 1, n + n2, R⟩ := by rw [hR]; rfl
  have HR := Lib.hid hR
  have HIf : Hid (∀ ws, Der ⟨m, n + n2 + 1, n + n2, R⟩ [⟨false, n + n2⟩] ws ↔ ConK ⟨m, n, s0, rs⟩ ⟨m, n2, s2, rs2⟩ ws (ws.length + 1)) := Lib.hid (fun ws => by
    rw [← hsg]
    refine (concat_iff hin hin2 hst hst2 ws).trans ⟨fun ⟨k, hk, h⟩ => ⟨k, by omega, h⟩, fun ⟨k, hk, h⟩ => ⟨k, by omega, h⟩⟩)
  have HCk2' := Lib.hid hck2
  have HCk2 : Hid (checkI ⟨m, n + n2 + 1, n + n2, R⟩ = 0) := Lib.hid (by rw [← hsg]; exact hck2)
  have HCk := Lib.hid hck
  have HCh := Lib.hid hckh
  dsimp only at hlc hld hA hB
  have hba : Below w1.heap.size w1 ((w1.alloc (.cells #[.int .i64 m, .int .i64 n, .int .i64 s0, .slice A rs.length c] 25)).alloc (.cells #[.int .i64 m, .int .i64 n2, .int .i64 s2, .slice B rs2.length d] 25)) := ((Below.refl _ _).alloc (Nat.le_refl _) _).alloc (by simp) _
  have HA1 := Lib.hid (hA.below hba)
  have HBx1 := Lib.hid (hB.below hba)
  have HB1 := Lib.hid (bthen hb1 hba hb1.size)
  have hz1 : w.heap.size ≤ w1.heap.size := hb1.size
  have hGx : Blk' ((w1.alloc (.cells #[.int .i64 m, .int .i64 n, .int .i64 s0, .slice A rs.length c] 25)).alloc (.cells #[.int .i64 m, .int .i64 n2, .int .i64 s2, .slice B rs2.length d] 25)) w1.heap.size 25 #[.int .i64 m, .int .i64 n, .int .i64 s0, .slice A rs.length c] := (Blk'.new _ _ _).alloc _
  have hHx : Blk' ((w1.alloc (.cells #[.int .i64 m, .int .i64 n, .int .i64 s0, .slice A rs.length c] 25)).alloc (.cells #[.int .i64 m, .int .i64 n2, .int .i64 s2, .slice B rs2.length d] 25)) (w1.heap.size + 1) 25 #[.int .i64 m, .int .i64 n2, .int .i64 s2, .slice B rs2.length d] := Blk'.new' _ _ _ (by simp)
  obtain ⟨w2, hw2⟩ : ∃ w2 : World, w2 = (w1.alloc (.cells #[.int .i64 m, .int .i64 n, .int .i64 s0, .slice A rs.length c] 25)).alloc (.cells #[.int .i64 m, .int .i64 n2, .int .i64 s2, .slice B rs2.length d] 25) := ⟨_, rfl⟩
  rw [← hw2] at HA1 HBx1 HB1 hGx hHx
  have HG1 := Lib.hid hGx
  have HH1 := Lib.hid hHx
  have HW2 := Lib.hid hw2
  have a0 : w2.cell? ⟨w1.heap.size, 0, none⟩ = some (.int .i64 m) := HG1.out.cell 0
  have a1 : w2.cell? ⟨w1.heap.size, 1, none⟩ = some (.int .i64 n) := HG1.out.cell 1
  have a2 : w2.cell? ⟨w1.heap.size, 2, none⟩ = some (.int .i64 s0) := HG1.out.cell 2
  have a3 : w2.cell? ⟨w1.heap.size, 3, none⟩ = some (.slice A rs.length c) := HG1.out.cell 3
  have j0 : w2.cell? ⟨w1.heap.size + 1, 0, none⟩ = some (.int .i64 m) := HH1.out.cell 0
  have j1 : w2.cell? ⟨w1.heap.size + 1, 1, none⟩ = some (.int .i64 n2) := HH1.out.cell 1
  have j2 : w2.cell? ⟨w1.heap.size + 1, 2, none⟩ = some (.int .i64 s2) := HH1.out.cell 2
  have j3 : w2.cell? ⟨w1.heap.size + 1, 3, none⟩ = some (.slice B rs2.length d) := HH1.out.cell 3
  have zG : w1.heap.size < w2.heap.size := HG1.out.lt
  have zH : w1.heap.size + 1 < w2.heap.size := HH1.out.lt
  clear hA hB hb1 hba hmade hmade2 hA0 hB0 hck hck2 hckh hvg hvh hw2 hin hin2 hsg hR hD0 hS0 hGx hHx
  go_upto_region 2 with (fail)
  rw [← HW2.out]
  go_wp2_with fail
  refine (mkword_any m 6 word D0 f0 S0 w2 ht1 (by omega) (by omega) k1 k2 (HD0.out.belowB HB1.out HS0.out) (fun b hb => by have := HS0.out b hb; omega)).mono ?_
  rintro e w3 ⟨v, ws, rfl, hwl, hwt, hown, hb3⟩
  obtain ⟨Aw, cw, rfl, hcw1, hcw2, _⟩ := hown.form
  have HAw : Hid (cw = 0 ∨ ∃ bw ow, Aw = some ⟨bw, ow, none⟩) := Lib.hid (own_addr hown)
  have HEw := Lib.hid (hown.vl.els.2.2.2.keep (S' := fun b => b < w3.heap.size) (fun _ _ _ => rfl) (fun b hb => hb.2))
  have HWt := Lib.hid hwt
  have HB3 := Lib.hid (bthen HB1.out hb3 HB1.out.size)
  have HG3 := Lib.hid (HG1.out.below hb3 HG1.out.lt)
  have HH3 := Lib.hid (HH1.out.below hb3 HH1.out.lt)
  have HA3 := Lib.hid (HA1.out.belowB hb3 (fun b hb => by omega))
  have HBx3 := Lib.hid (HBx1.out.belowB hb3 (fun b hb => by omega))
  have hz3 := hb3.size
  have b0 : w3.cell? ⟨w1.heap.size, 0, none⟩ = some (.int .i64 m) := HG3.out.cell 0
  have b1 : w3.cell? ⟨w1.heap.size, 1, none⟩ = some (.int .i64 n) := HG3.out.cell 1
  have b2 : w3.cell? ⟨w1.heap.size, 2, none⟩ = some (.int .i64 s0) := HG3.out.cell 2
  have b3 : w3.cell? ⟨w1.heap.size, 3, none⟩ = some (.slice A rs.length c) := HG3.out.cell 3
  have l0 : w3.cell? ⟨w1.heap.size + 1, 0, none⟩ = some (.int .i64 m) := HH3.out.cell 0
  have l1 : w3.cell? ⟨w1.heap.size + 1, 1, none⟩ = some (.int .i64 n2) := HH3.out.cell 1
  have l2 : w3.cell? ⟨w1.heap.size + 1, 2, none⟩ = some (.int .i64 s2) := HH3.out.cell 2
  have l3 : w3.cell? ⟨w1.heap.size + 1, 3, none⟩ = some (.slice B rs2.length d) := HH3.out.cell 3
  have zG3 : w1.heap.size < w3.heap.size := HG3.out.lt
  have zH3 : w1.heap.size + 1 < w3.heap.size := HH3.out.lt
  clear a0 a1 a2 a3 j0 j1 j2 j3 hwt hown hb3
  go_wp2_with fail
  refine (concat_any ⟨m, n, s0, rs⟩ ⟨m, n2, s2, rs2⟩ A B c d (fun b => b < w1.heap.size) w3 HCk.out HCh.out rfl HCk2'.out hlc hc HA3.out hld hd HBx3.out (fun b hb => by omega)).mono ?_
  rintro e w4 ⟨A2, c2, rfl, hl2, hc2, hE2, hb4⟩
  rw [← HR.out] at hl2 hE2 ⊢
  dsimp only at hl2 hE2 ⊢
  have hbx : Below w4.heap.size w4 (w4.alloc (.cells #[.int .i64 m, .int .i64 (n + n2 + 1), .int .i64 (n + n2), .slice A2 R.length c2] 25)) := (Below.refl _ _).alloc (Nat.le_refl _) _
  have HG2 := Lib.hid (Blk'.new w4 25 #[.int .i64 m, .int .i64 (n + n2 + 1), .int .i64 (n + n2), .slice A2 R.length c2])
  have HA2 := Lib.hid ((hE2.keep (S' := fun b => b < w4.heap.size) (fun _ _ _ => rfl) (fun b hb => hb.2)).below hbx)
  have HB45 := Lib.hid (bthen hb4 hbx hb4.size)
  obtain ⟨w5, hw5⟩ : ∃ w5 : World, w5 = w4.alloc (.cells #[.int .i64 m, .int .i64 (n + n2 + 1), .int .i64 (n + n2), .slice A2 R.length c2] 25) := ⟨_, rfl⟩
  rw [← hw5] at HG2 HA2 HB45
  have HW5 := Lib.hid hw5
  have HB5 := Lib.hid (bthen HB3.out HB45.out HB3.out.size)
  have HG5 := Lib.hid (HG3.out.below HB45.out HG3.out.lt)
  have HH5 := Lib.hid (HH3.out.below HB45.out HH3.out.lt)
  have HA5 := Lib.hid (HA3.out.belowB HB45.out (fun b hb => by omega))
  have HBx5 := Lib.hid (HBx3.out.belowB HB45.out (fun b hb => by omega))
  have HEw5 := Lib.hid (HEw.out.belowB HB45.out (fun b hb => hb))
  have hz4 := hb4.size
  have t0 : w5.cell? ⟨w4.heap.size, 0, none⟩ = some (.int .i64 m) := HG2.out.cell 0
  have t1 : w5.cell? ⟨w4.heap.size, 1, none⟩ = some (.int .i64 (n + n2 + 1)) := HG2.out.cell 1
  have t2 : w5.cell? ⟨w4.heap.size, 2, none⟩ = some (.int .i64 (n + n2)) := HG2.out.cell 2
  have t3 : w5.cell? ⟨w4.heap.size, 3, none⟩ = some (.slice A2 R.length c2) := HG2.out.cell 3
  have zG5 : w4.heap.size < w5.heap.size := HG2.out.lt
  clear b0 b1 b2 b3 l0 l1 l2 l3 hw5 hbx hb4 hE2
  go_upto_region 4 with (fail)
  rw [← HW5.out]
  go_wp2_with fail
  refine (accepts_any ⟨m, n + n2 + 1, n + n2, R⟩ ws A2 Aw c2 cw _ _ w5 HCk2.out hl2 hc2 HA2.out (fun b hb => by omega) HEw5.out (fun b hb => by omega) (word_ok (by omega) HWt.out) (HT.out.below HB5.out HT.out.1)).mono ?_
  rintro e w6 ⟨bi, rfl, hbi, hb6⟩
  have HBi := Lib.hid hbi
  have HB6 := Lib.hid (bthen HB5.out hb6 HB5.out.size)
  have HB56 := Lib.hid hb6
  clear t0 t1 t2 t3 hbi hb6
  go_wp2_with fail
  refine (closes_any _).mono ?_
  rintro e w7 ⟨rfl, hb7⟩
  have HB7 := Lib.hid (bthen HB6.out hb7 HB6.out.size)
  have HB57 := Lib.hid (bthen HB56.out hb7 HB56.out.size)
  have hwl1 : IntKind.i64.wrap ((ws.length : Int) + 1) = (ws.length : Int) + 1 := IntWalk.i64_in _ (by omega)
  clear hb7
  go_wp2_with fail
  go_loopw [14, 55] (fun v i wr => CnL ⟨m, n, s0, rs⟩ ⟨m, n2, s2, rs2⟩ ws w7 v i wr) (fun _ i _ => ws.length + 1 - (intOf i).toNat)
  case atStart => exact ⟨0, false, Nat.zero_le _, rfl, rfl, ⟨(fun h => by cases h), (fun ⟨j, hj, _⟩ => by omega)⟩, Below.refl _ _⟩
  case round =>
    obtain ⟨wz, hwz⟩ : ∃ wz : World, wz = wr := ⟨_, rfl⟩
    subst hwz
    obtain ⟨k, b, hk, rfl, rfl, hb, hbz⟩ := hrel
    have HBb := Lib.hid hb
    have HBz := Lib.hid hbz
    have HB5z := Lib.hid (bthen HB57.out hbz HB57.out.size)
    have hz5 : w5.heap.size ≤ wz.heap.size := HB5z.out.size
    clear hb hbz
    by_cases hlt : k < ws.length + 1
    · have HGz := Lib.hid (HG5.out.below HB5z.out HG5.out.lt)
      have z0 : wz.cell? ⟨w1.heap.size, 0, none⟩ = some (.int .i64 m) := HGz.out.cell 0
      have z1 : wz.cell? ⟨w1.heap.size, 1, none⟩ = some (.int .i64 n) := HGz.out.cell 1
      have z2 : wz.cell? ⟨w1.heap.size, 2, none⟩ = some (.int .i64 s0) := HGz.out.cell 2
      have z3 : wz.cell? ⟨w1.heap.size, 3, none⟩ = some (.slice A rs.length c) := HGz.out.cell 3
      have zGz : w1.heap.size < wz.heap.size := HGz.out.lt
      have HEz := Lib.hid (HEw5.out.belowB HB5z.out (fun b hb => by omega))
      have HEt := Lib.hid (HEz.out.takeS k)
      have HLt : Hid ((ws.take k).length = k) := Lib.hid (by rw [List.length_take]; omega)
      have HLd : Hid ((ws.drop k).length = ws.length - k) := Lib.hid (by rw [List.length_drop])
      have HOt : Hid (wordE m (ws.take k) 12 = 0) := Lib.hid (word_ok (by rw [List.length_take]; omega) (fun x hx => HWt.out x (List.mem_of_mem_take hx)))
      have HOd : Hid (wordE m (ws.drop k) 12 = 0) := Lib.hid (word_ok (by rw [List.length_drop]; omega) (fun x hx => HWt.out x (List.mem_of_mem_drop hx)))
      have hk0 : (0 : Int) ≤ (k : Int) := by omega
      have hk1 : (k : Int) ≤ (cw : Int) := by omega
      have hk2 : (k : Int) ≤ (ws.length : Int) := by omega
      have hk4 : (k : Int) < (ws.length : Int) + 1 := by omega
      have hzt : Hid (∀ b, b < w3.heap.size → b < wz.heap.size) := Lib.hid (fun b hb => by omega)
      have HEd : Hid (∀ Ad, ((∃ bw ow, Aw = some ⟨bw, ow, none⟩ ∧ Ad = some ⟨bw, ow + k, none⟩) ∨ cw = k) → Els wz (fun b => b < w3.heap.size) (ws.drop k) Ad) := Lib.hid (fun Ad hAd hne => by
        have hkl : k < ws.length := by
          rcases Nat.lt_or_ge k ws.length with h | h
          · exact h
          · exact absurd (List.drop_eq_nil_of_le h) hne
        obtain ⟨bw, ow, hAw, _⟩ := HEz.out (by intro h; rw [h] at hkl; simp at hkl)
        subst hAw
        rcases hAd with hAd | hAd
        · obtain ⟨bx, ox, hx, hAd⟩ := hAd
          injection hx with hx
          injection hx with hx1 hx2
          subst hx1; subst hx2; subst hAd
          have h := HEz.out.dropS k
          rw [show ow + k * Dat.size Int = ow + k from by simp [Dat.size]] at h
          exact h hne
        · omega)
      by_cases hkc : cw = k
      · have hk3 : (cw = k) = True := eq_true hkc
        have HKc := Lib.hid hkc
        clear hkc
        go_wp2_with fail
        refine wp_region_noPanic ?_
        refine wp_region_held_drew (S := (fun w' => w'.cell? ⟨w1.heap.size, 0, none⟩ = some (.int .i64 m) ∧ w'.cell? ⟨w1.heap.size, 1, none⟩ = some (.int .i64 n) ∧ w'.cell? ⟨w1.heap.size, 2, none⟩ = some (.int .i64 s0) ∧ w'.cell? ⟨w1.heap.size, 3, none⟩ = some (.slice A rs.length c))) (by kernel_rfl) ?hai (fun hHeld => ?bai)
        case hai => ((try dsimp only); go_keep)
        refine take_run (i := 0) (v := ?vai0) rfl (by kernel_rfl) (by kernel_rfl) (by kernel_rfl) (fun _ _ _ h => h) (by rfl) ?yai0 (by assumption) ?rai0
        case yai0 => (intro w hSw; (try dsimp only at hSw); go_simp; try with_reducible rfl)
        try simp only [Act.put, List.setIfInBounds_toArray, List.set_cons_zero, List.set_cons_succ]
        refine take_run (i := 1) (v := ?vai1) rfl (by kernel_rfl) (by kernel_rfl) (by kernel_rfl) (fun _ _ _ h => h) (by rfl) ?yai1 (by assumption) ?rai1
        case yai1 => (intro w hSw; (try dsimp only at hSw); go_simp; try with_reducible rfl)
        try simp only [Act.put, List.setIfInBounds_toArray, List.set_cons_zero, List.set_cons_succ]
        refine take_run (i := 2) (v := ?vai2) rfl (by kernel_rfl) (by kernel_rfl) (by kernel_rfl) (fun _ _ _ h => h) (by rfl) ?yai2 (by assumption) ?rai2
        case yai2 => (intro w hSw; (try dsimp only at hSw); go_simp; try with_reducible rfl)
        try simp only [Act.put, List.setIfInBounds_toArray, List.set_cons_zero, List.set_cons_succ]
        refine take_run (i := 3) (v := ?vai3) rfl (by kernel_rfl) (by kernel_rfl) (by kernel_rfl) (fun _ _ _ h => h) (by rfl) ?yai3 (by assumption) ?rai3
        case yai3 => (intro w hSw; (try dsimp only at hSw); go_simp; try with_reducible rfl)
        try simp only [Act.put, List.setIfInBounds_toArray, List.set_cons_zero, List.set_cons_succ]
        refine take_call (i := 4) rfl (by kernel_rfl) (by rfl) (fun Kq hK => ?_)
        go_simp
        go_at_call 12
        have hcall := accepts_any ⟨m, n, s0, rs⟩ (ws.take k) A (Aw) c cw _ _ wz.drew HCk.out hlc hc (HA5.out.belowB HB5z.out.drew (fun b hb => by omega)) (fun b hb => by show b < wz.heap.size; omega) (HEt.out.belowB (Below.refl wz.heap.size wz).drew hzt.out) hzt.out HOt.out (HT.out.below (bthen HB5.out HB5z.out.drew HB5.out.size) HT.out.1)
        rw [HLt.out] at hcall
        refine hcall.mono ?_
        clear hcall
        rintro e w8 ⟨x1, rfl, hx1, hb8⟩
        have HX1 := Lib.hid hx1
        have HB8 := Lib.hid (bundrew hb8)
        have HB58 := Lib.hid (bthen HB5z.out HB8.out HB5z.out.size)
        have y0 := (HB8.out.cell (p := ⟨w1.heap.size, 0, none⟩) zGz).trans z0
        have y1 := (HB8.out.cell (p := ⟨w1.heap.size, 1, none⟩) zGz).trans z1
        have y2 := (HB8.out.cell (p := ⟨w1.heap.size, 2, none⟩) zGz).trans z2
        have y3 := (HB8.out.cell (p := ⟨w1.heap.size, 3, none⟩) zGz).trans z3
        have HH8 := Lib.hid (HH5.out.below HB58.out HH5.out.lt)
        have x00 : w8.cell? ⟨w1.heap.size + 1, 0, none⟩ = some (.int .i64 m) := HH8.out.cell 0
        have x01 : w8.cell? ⟨w1.heap.size + 1, 1, none⟩ = some (.int .i64 n2) := HH8.out.cell 1
        have x02 : w8.cell? ⟨w1.heap.size + 1, 2, none⟩ = some (.int .i64 s2) := HH8.out.cell 2
        have x03 : w8.cell? ⟨w1.heap.size + 1, 3, none⟩ = some (.slice B rs2.length d) := HH8.out.cell 3
        have zG8 : w1.heap.size + 1 < w8.heap.size := HH8.out.lt
        have zH8 : w1.heap.size < w8.heap.size := by have := HB8.out.size; omega
        have hz8 : wz.heap.size ≤ w8.heap.size := HB8.out.size
        clear hx1 hb8 z0 z1 z2 z3
        refine hK.out _ _ ?hai4 (fun hHeld => ?rai4)
        case hai4 => ((try dsimp only); go_keep)
        clear hK Kq
        try simp only [Act.put, List.setIfInBounds_toArray, List.set_cons_zero, List.set_cons_succ]
        refine take_run (i := 5) (v := ?vai5) rfl (by kernel_rfl) (by kernel_rfl) (by kernel_rfl) (fun _ _ _ h => h) (by rfl) ?yai5 (by assumption) ?rai5
        case yai5 => (intro w hSw; (try dsimp only at hSw); go_simp; try with_reducible rfl)
        try simp only [Act.put, List.setIfInBounds_toArray, List.set_cons_zero, List.set_cons_succ]
        refine take_run (i := 6) (v := ?vai6) rfl (by kernel_rfl) (by kernel_rfl) (by kernel_rfl) (fun _ _ _ h => h) (by rfl) ?yai6 (by assumption) ?rai6
        case yai6 => (intro w hSw; (try dsimp only at hSw); go_simp; try with_reducible rfl)
        try simp only [Act.put, List.setIfInBounds_toArray, List.set_cons_zero, List.set_cons_succ]
        refine take_run (i := 7) (v := ?vai7) rfl (by kernel_rfl) (by kernel_rfl) (by kernel_rfl) (fun _ _ _ h => h) (by rfl) ?yai7 (by assumption) ?rai7
        case yai7 => (intro w hSw; (try dsimp only at hSw); go_simp; try with_reducible rfl)
        try simp only [Act.put, List.setIfInBounds_toArray, List.set_cons_zero, List.set_cons_succ]
        refine take_run (i := 8) (v := ?vai8) rfl (by kernel_rfl) (by kernel_rfl) (by kernel_rfl) (fun _ _ _ h => h) (by rfl) ?yai8 (by assumption) ?rai8
        case yai8 => (intro w hSw; (try dsimp only at hSw); go_simp; try with_reducible rfl)
        try simp only [Act.put, List.setIfInBounds_toArray, List.set_cons_zero, List.set_cons_succ]
        refine take_run (i := 9) (v := ?vai9) rfl (by kernel_rfl) (by kernel_rfl) (by kernel_rfl) (fun _ _ _ h => h) (by rfl) ?yai9 (by assumption) ?rai9
        case yai9 => (intro w hSw; (try dsimp only at hSw); go_simp; try with_reducible rfl)
        try simp only [Act.put, List.setIfInBounds_toArray, List.set_cons_zero, List.set_cons_succ]
        refine wpAnyH_done (by kernel_rfl) ?_ _
        refine NoPanic.normal ?_
        go_wp2_with fail
        refine wp_region_noPanic ?_
        refine wp_region_held_drew (S := (fun w' => w'.cell? ⟨w1.heap.size + 1, 0, none⟩ = some (.int .i64 m) ∧ w'.cell? ⟨w1.heap.size + 1, 1, none⟩ = some (.int .i64 n2) ∧ w'.cell? ⟨w1.heap.size + 1, 2, none⟩ = some (.int .i64 s2) ∧ w'.cell? ⟨w1.heap.size + 1, 3, none⟩ = some (.slice B rs2.length d))) (by kernel_rfl) ?hei (fun hHeld => ?bei)
        case hei => ((try dsimp only); go_keep)
        refine take_run (i := 0) (v := ?vei0) rfl (by kernel_rfl) (by kernel_rfl) (by kernel_rfl) (fun _ _ _ h => h) (by rfl) ?yei0 (by assumption) ?rei0
        case yei0 => (intro w hSw; (try dsimp only at hSw); go_simp; try with_reducible rfl)
        try simp only [Act.put, List.setIfInBounds_toArray, List.set_cons_zero, List.set_cons_succ]
        refine take_run (i := 1) (v := ?vei1) rfl (by kernel_rfl) (by kernel_rfl) (by kernel_rfl) (fun _ _ _ h => h) (by rfl) ?yei1 (by assumption) ?rei1
        case yei1 => (intro w hSw; (try dsimp only at hSw); go_simp; try with_reducible rfl)
        try simp only [Act.put, List.setIfInBounds_toArray, List.set_cons_zero, List.set_cons_succ]
        refine take_run (i := 2) (v := ?vei2) rfl (by kernel_rfl) (by kernel_rfl) (by kernel_rfl) (fun _ _ _ h => h) (by rfl) ?yei2 (by assumption) ?rei2
        case yei2 => (intro w hSw; (try dsimp only at hSw); go_simp; try with_reducible rfl)
        try simp only [Act.put, List.setIfInBounds_toArray, List.set_cons_zero, List.set_cons_succ]
        refine take_run (i := 3) (v := ?vei3) rfl (by kernel_rfl) (by kernel_rfl) (by kernel_rfl) (fun _ _ _ h => h) (by rfl) ?yei3 (by assumption) ?rei3
        case yei3 => (intro w hSw; (try dsimp only at hSw); go_simp; try with_reducible rfl)
        try simp only [Act.put, List.setIfInBounds_toArray, List.set_cons_zero, List.set_cons_succ]
        refine take_call (i := 4) rfl (by kernel_rfl) (by rfl) (fun Kq hK => ?_)
        go_simp
        go_at_call 12
        have hcall := accepts_any ⟨m, n2, s2, rs2⟩ (ws.drop k) B (Aw) d (cw - k) _ _ w8.drew HCh.out hld hd (HBx5.out.belowB HB58.out.drew (fun b hb => by omega)) (fun b hb => by show b < w8.heap.size; omega) ((HEd.out _ (.inr HKc.out)).belowB HB8.out.drew hzt.out) (fun b hb => by show b < w8.heap.size; have := hzt.out b hb; omega) HOd.out (HT.out.below (bthen HB5.out HB58.out.drew HB5.out.size) HT.out.1)
        rw [HLd.out] at hcall
        refine hcall.mono ?_
        clear hcall
        rintro e w9 ⟨x2, rfl, hx2, hb9⟩
        have HX2 := Lib.hid hx2
        have HB9 := Lib.hid (bundrew hb9)
        have HB2e := Lib.hid (bthen HBz.out (bthen HB8.out HB9.out HB8.out.size) HBz.out.size)
        have u0 := (HB9.out.cell (p := ⟨w1.heap.size + 1, 0, none⟩) zG8).trans x00
        have u1 := (HB9.out.cell (p := ⟨w1.heap.size + 1, 1, none⟩) zG8).trans x01
        have u2 := (HB9.out.cell (p := ⟨w1.heap.size + 1, 2, none⟩) zG8).trans x02
        have u3 := (HB9.out.cell (p := ⟨w1.heap.size + 1, 3, none⟩) zG8).trans x03
        clear hx2 hb9 x00 x01 x02 x03 y0 y1 y2 y3
        refine hK.out _ _ ?hei4 (fun hHeld => ?rei4)
        case hei4 => ((try dsimp only); go_keep)
        clear hK Kq
        try simp only [Act.put, List.setIfInBounds_toArray, List.set_cons_zero, List.set_cons_succ]
        refine take_run (i := 5) (v := ?vei5) rfl (by kernel_rfl) (by kernel_rfl) (by kernel_rfl) (fun _ _ _ h => h) (by rfl) ?yei5 (by assumption) ?rei5
        case yei5 => (intro w hSw; (try dsimp only at hSw); go_simp; try with_reducible rfl)
        try simp only [Act.put, List.setIfInBounds_toArray, List.set_cons_zero, List.set_cons_succ]
        refine take_run (i := 6) (v := ?vei6) rfl (by kernel_rfl) (by kernel_rfl) (by kernel_rfl) (fun _ _ _ h => h) (by rfl) ?yei6 (by assumption) ?rei6
        case yei6 => (intro w hSw; (try dsimp only at hSw); go_simp; try with_reducible rfl)
        try simp only [Act.put, List.setIfInBounds_toArray, List.set_cons_zero, List.set_cons_succ]
        refine take_run (i := 7) (v := ?vei7) rfl (by kernel_rfl) (by kernel_rfl) (by kernel_rfl) (fun _ _ _ h => h) (by rfl) ?yei7 (by assumption) ?rei7
        case yei7 => (intro w hSw; (try dsimp only at hSw); go_simp; try with_reducible rfl)
        try simp only [Act.put, List.setIfInBounds_toArray, List.set_cons_zero, List.set_cons_succ]
        refine take_run (i := 8) (v := ?vei8) rfl (by kernel_rfl) (by kernel_rfl) (by kernel_rfl) (fun _ _ _ h => h) (by rfl) ?yei8 (by assumption) ?rei8
        case yei8 => (intro w hSw; (try dsimp only at hSw); go_simp; try with_reducible rfl)
        try simp only [Act.put, List.setIfInBounds_toArray, List.set_cons_zero, List.set_cons_succ]
        refine take_run (i := 9) (v := ?vei9) rfl (by kernel_rfl) (by kernel_rfl) (by kernel_rfl) (fun _ _ _ h => h) (by rfl) ?yei9 (by assumption) ?rei9
        case yei9 => (intro w hSw; (try dsimp only at hSw); go_simp; try with_reducible rfl)
        try simp only [Act.put, List.setIfInBounds_toArray, List.set_cons_zero, List.set_cons_succ]
        refine wpAnyH_done (by kernel_rfl) ?_ _
        refine NoPanic.normal ?_
        cases b <;> cases x1 <;> cases x2 <;>
          · go_wp2
            go_roundw
            case rel => exact ⟨k + 1, _, hlt, by go_num, rfl, (conK_next HBb.out HX1.out HX2.out), HB2e.out⟩
            case measure => simp [intOf]; omega
      · have hk3 : (cw = k) = False := eq_false hkc
        have hax : ∃ bw ow, Aw = some ⟨bw, ow, none⟩ := by
          rcases HAw.out with h | h
          · omega
          · exact h
        obtain ⟨bw, ow, rfl⟩ := hax
        clear hkc
        go_wp2_with fail
        refine wp_region_noPanic ?_
        refine wp_region_held_drew (S := (fun w' => w'.cell? ⟨w1.heap.size, 0, none⟩ = some (.int .i64 m) ∧ w'.cell? ⟨w1.heap.size, 1, none⟩ = some (.int .i64 n) ∧ w'.cell? ⟨w1.heap.size, 2, none⟩ = some (.int .i64 s0) ∧ w'.cell? ⟨w1.heap.size, 3, none⟩ = some (.slice A rs.length c))) (by kernel_rfl) ?hak (fun hHeld => ?bak)
        case hak => ((try dsimp only); go_keep)
        refine take_run (i := 0) (v := ?vak0) rfl (by kernel_rfl) (by kernel_rfl) (by kernel_rfl) (fun _ _ _ h => h) (by rfl) ?yak0 (by assumption) ?rak0
        case yak0 => (intro w hSw; (try dsimp only at hSw); go_simp; try with_reducible rfl)
        try simp only [Act.put, List.setIfInBounds_toArray, List.set_cons_zero, List.set_cons_succ]
        refine take_run (i := 1) (v := ?vak1) rfl (by kernel_rfl) (by kernel_rfl) (by kernel_rfl) (fun _ _ _ h => h) (by rfl) ?yak1 (by assumption) ?rak1
        case yak1 => (intro w hSw; (try dsimp only at hSw); go_simp; try with_reducible rfl)
        try simp only [Act.put, List.setIfInBounds_toArray, List.set_cons_zero, List.set_cons_succ]
        refine take_run (i := 2) (v := ?vak2) rfl (by kernel_rfl) (by kernel_rfl) (by kernel_rfl) (fun _ _ _ h => h) (by rfl) ?yak2 (by assumption) ?rak2
        case yak2 => (intro w hSw; (try dsimp only at hSw); go_simp; try with_reducible rfl)
        try simp only [Act.put, List.setIfInBounds_toArray, List.set_cons_zero, List.set_cons_succ]
        refine take_run (i := 3) (v := ?vak3) rfl (by kernel_rfl) (by kernel_rfl) (by kernel_rfl) (fun _ _ _ h => h) (by rfl) ?yak3 (by assumption) ?rak3
        case yak3 => (intro w hSw; (try dsimp only at hSw); go_simp; try with_reducible rfl)
        try simp only [Act.put, List.setIfInBounds_toArray, List.set_cons_zero, List.set_cons_succ]
        refine take_call (i := 4) rfl (by kernel_rfl) (by rfl) (fun Kq hK => ?_)
        go_simp
        go_at_call 12
        have hcall := accepts_any ⟨m, n, s0, rs⟩ (ws.take k) A (some ⟨bw, ow, none⟩) c cw _ _ wz.drew HCk.out hlc hc (HA5.out.belowB HB5z.out.drew (fun b hb => by omega)) (fun b hb => by show b < wz.heap.size; omega) (HEt.out.belowB (Below.refl wz.heap.size wz).drew hzt.out) hzt.out HOt.out (HT.out.below (bthen HB5.out HB5z.out.drew HB5.out.size) HT.out.1)
        rw [HLt.out] at hcall
        refine hcall.mono ?_
        clear hcall
        rintro e w8 ⟨x1, rfl, hx1, hb8⟩
        have HX1 := Lib.hid hx1
        have HB8 := Lib.hid (bundrew hb8)
        have HB58 := Lib.hid (bthen HB5z.out HB8.out HB5z.out.size)
        have y0 := (HB8.out.cell (p := ⟨w1.heap.size, 0, none⟩) zGz).trans z0
        have y1 := (HB8.out.cell (p := ⟨w1.heap.size, 1, none⟩) zGz).trans z1
        have y2 := (HB8.out.cell (p := ⟨w1.heap.size, 2, none⟩) zGz).trans z2
        have y3 := (HB8.out.cell (p := ⟨w1.heap.size, 3, none⟩) zGz).trans z3
        have HH8 := Lib.hid (HH5.out.below HB58.out HH5.out.lt)
        have x00 : w8.cell? ⟨w1.heap.size + 1, 0, none⟩ = some (.int .i64 m) := HH8.out.cell 0
        have x01 : w8.cell? ⟨w1.heap.size + 1, 1, none⟩ = some (.int .i64 n2) := HH8.out.cell 1
        have x02 : w8.cell? ⟨w1.heap.size + 1, 2, none⟩ = some (.int .i64 s2) := HH8.out.cell 2
        have x03 : w8.cell? ⟨w1.heap.size + 1, 3, none⟩ = some (.slice B rs2.length d) := HH8.out.cell 3
        have zG8 : w1.heap.size + 1 < w8.heap.size := HH8.out.lt
        have zH8 : w1.heap.size < w8.heap.size := by have := HB8.out.size; omega
        have hz8 : wz.heap.size ≤ w8.heap.size := HB8.out.size
        clear hx1 hb8 z0 z1 z2 z3
        refine hK.out _ _ ?hak4 (fun hHeld => ?rak4)
        case hak4 => ((try dsimp only); go_keep)
        clear hK Kq
        try simp only [Act.put, List.setIfInBounds_toArray, List.set_cons_zero, List.set_cons_succ]
        refine take_run (i := 5) (v := ?vak5) rfl (by kernel_rfl) (by kernel_rfl) (by kernel_rfl) (fun _ _ _ h => h) (by rfl) ?yak5 (by assumption) ?rak5
        case yak5 => (intro w hSw; (try dsimp only at hSw); go_simp; try with_reducible rfl)
        try simp only [Act.put, List.setIfInBounds_toArray, List.set_cons_zero, List.set_cons_succ]
        refine take_run (i := 6) (v := ?vak6) rfl (by kernel_rfl) (by kernel_rfl) (by kernel_rfl) (fun _ _ _ h => h) (by rfl) ?yak6 (by assumption) ?rak6
        case yak6 => (intro w hSw; (try dsimp only at hSw); go_simp; try with_reducible rfl)
        try simp only [Act.put, List.setIfInBounds_toArray, List.set_cons_zero, List.set_cons_succ]
        refine take_run (i := 7) (v := ?vak7) rfl (by kernel_rfl) (by kernel_rfl) (by kernel_rfl) (fun _ _ _ h => h) (by rfl) ?yak7 (by assumption) ?rak7
        case yak7 => (intro w hSw; (try dsimp only at hSw); go_simp; try with_reducible rfl)
        try simp only [Act.put, List.setIfInBounds_toArray, List.set_cons_zero, List.set_cons_succ]
        refine take_run (i := 8) (v := ?vak8) rfl (by kernel_rfl) (by kernel_rfl) (by kernel_rfl) (fun _ _ _ h => h) (by rfl) ?yak8 (by assumption) ?rak8
        case yak8 => (intro w hSw; (try dsimp only at hSw); go_simp; try with_reducible rfl)
        try simp only [Act.put, List.setIfInBounds_toArray, List.set_cons_zero, List.set_cons_succ]
        refine take_run (i := 9) (v := ?vak9) rfl (by kernel_rfl) (by kernel_rfl) (by kernel_rfl) (fun _ _ _ h => h) (by rfl) ?yak9 (by assumption) ?rak9
        case yak9 => (intro w hSw; (try dsimp only at hSw); go_simp; try with_reducible rfl)
        try simp only [Act.put, List.setIfInBounds_toArray, List.set_cons_zero, List.set_cons_succ]
        refine wpAnyH_done (by kernel_rfl) ?_ _
        refine NoPanic.normal ?_
        go_wp2_with fail
        refine wp_region_noPanic ?_
        refine wp_region_held_drew (S := (fun w' => w'.cell? ⟨w1.heap.size + 1, 0, none⟩ = some (.int .i64 m) ∧ w'.cell? ⟨w1.heap.size + 1, 1, none⟩ = some (.int .i64 n2) ∧ w'.cell? ⟨w1.heap.size + 1, 2, none⟩ = some (.int .i64 s2) ∧ w'.cell? ⟨w1.heap.size + 1, 3, none⟩ = some (.slice B rs2.length d))) (by kernel_rfl) ?hek (fun hHeld => ?bek)
        case hek => ((try dsimp only); go_keep)
        refine take_run (i := 0) (v := ?vek0) rfl (by kernel_rfl) (by kernel_rfl) (by kernel_rfl) (fun _ _ _ h => h) (by rfl) ?yek0 (by assumption) ?rek0
        case yek0 => (intro w hSw; (try dsimp only at hSw); go_simp; try with_reducible rfl)
        try simp only [Act.put, List.setIfInBounds_toArray, List.set_cons_zero, List.set_cons_succ]
        refine take_run (i := 1) (v := ?vek1) rfl (by kernel_rfl) (by kernel_rfl) (by kernel_rfl) (fun _ _ _ h => h) (by rfl) ?yek1 (by assumption) ?rek1
        case yek1 => (intro w hSw; (try dsimp only at hSw); go_simp; try with_reducible rfl)
        try simp only [Act.put, List.setIfInBounds_toArray, List.set_cons_zero, List.set_cons_succ]
        refine take_run (i := 2) (v := ?vek2) rfl (by kernel_rfl) (by kernel_rfl) (by kernel_rfl) (fun _ _ _ h => h) (by rfl) ?yek2 (by assumption) ?rek2
        case yek2 => (intro w hSw; (try dsimp only at hSw); go_simp; try with_reducible rfl)
        try simp only [Act.put, List.setIfInBounds_toArray, List.set_cons_zero, List.set_cons_succ]
        refine take_run (i := 3) (v := ?vek3) rfl (by kernel_rfl) (by kernel_rfl) (by kernel_rfl) (fun _ _ _ h => h) (by rfl) ?yek3 (by assumption) ?rek3
        case yek3 => (intro w hSw; (try dsimp only at hSw); go_simp; try with_reducible rfl)
        try simp only [Act.put, List.setIfInBounds_toArray, List.set_cons_zero, List.set_cons_succ]
        refine take_call (i := 4) rfl (by kernel_rfl) (by rfl) (fun Kq hK => ?_)
        go_simp
        go_at_call 12
        have hcall := accepts_any ⟨m, n2, s2, rs2⟩ (ws.drop k) B (some ⟨bw, ow + k, none⟩) d (cw - k) _ _ w8.drew HCh.out hld hd (HBx5.out.belowB HB58.out.drew (fun b hb => by omega)) (fun b hb => by show b < w8.heap.size; omega) ((HEd.out _ (.inl ⟨_, _, rfl, rfl⟩)).belowB HB8.out.drew hzt.out) (fun b hb => by show b < w8.heap.size; have := hzt.out b hb; omega) HOd.out (HT.out.below (bthen HB5.out HB58.out.drew HB5.out.size) HT.out.1)
        rw [HLd.out] at hcall
        refine hcall.mono ?_
        clear hcall
        rintro e w9 ⟨x2, rfl, hx2, hb9⟩
        have HX2 := Lib.hid hx2
        have HB9 := Lib.hid (bundrew hb9)
        have HB2e := Lib.hid (bthen HBz.out (bthen HB8.out HB9.out HB8.out.size) HBz.out.size)
        have u0 := (HB9.out.cell (p := ⟨w1.heap.size + 1, 0, none⟩) zG8).trans x00
        have u1 := (HB9.out.cell (p := ⟨w1.heap.size + 1, 1, none⟩) zG8).trans x01
        have u2 := (HB9.out.cell (p := ⟨w1.heap.size + 1, 2, none⟩) zG8).trans x02
        have u3 := (HB9.out.cell (p := ⟨w1.heap.size + 1, 3, none⟩) zG8).trans x03
        clear hx2 hb9 x00 x01 x02 x03 y0 y1 y2 y3
        refine hK.out _ _ ?hek4 (fun hHeld => ?rek4)
        case hek4 => ((try dsimp only); go_keep)
        clear hK Kq
        try simp only [Act.put, List.setIfInBounds_toArray, List.set_cons_zero, List.set_cons_succ]
        refine take_run (i := 5) (v := ?vek5) rfl (by kernel_rfl) (by kernel_rfl) (by kernel_rfl) (fun _ _ _ h => h) (by rfl) ?yek5 (by assumption) ?rek5
        case yek5 => (intro w hSw; (try dsimp only at hSw); go_simp; try with_reducible rfl)
        try simp only [Act.put, List.setIfInBounds_toArray, List.set_cons_zero, List.set_cons_succ]
        refine take_run (i := 6) (v := ?vek6) rfl (by kernel_rfl) (by kernel_rfl) (by kernel_rfl) (fun _ _ _ h => h) (by rfl) ?yek6 (by assumption) ?rek6
        case yek6 => (intro w hSw; (try dsimp only at hSw); go_simp; try with_reducible rfl)
        try simp only [Act.put, List.setIfInBounds_toArray, List.set_cons_zero, List.set_cons_succ]
        refine take_run (i := 7) (v := ?vek7) rfl (by kernel_rfl) (by kernel_rfl) (by kernel_rfl) (fun _ _ _ h => h) (by rfl) ?yek7 (by assumption) ?rek7
        case yek7 => (intro w hSw; (try dsimp only at hSw); go_simp; try with_reducible rfl)
        try simp only [Act.put, List.setIfInBounds_toArray, List.set_cons_zero, List.set_cons_succ]
        refine take_run (i := 8) (v := ?vek8) rfl (by kernel_rfl) (by kernel_rfl) (by kernel_rfl) (fun _ _ _ h => h) (by rfl) ?yek8 (by assumption) ?rek8
        case yek8 => (intro w hSw; (try dsimp only at hSw); go_simp; try with_reducible rfl)
        try simp only [Act.put, List.setIfInBounds_toArray, List.set_cons_zero, List.set_cons_succ]
        refine take_run (i := 9) (v := ?vek9) rfl (by kernel_rfl) (by kernel_rfl) (by kernel_rfl) (fun _ _ _ h => h) (by rfl) ?yek9 (by assumption) ?rek9
        case yek9 => (intro w hSw; (try dsimp only at hSw); go_simp; try with_reducible rfl)
        try simp only [Act.put, List.setIfInBounds_toArray, List.set_cons_zero, List.set_cons_succ]
        refine wpAnyH_done (by kernel_rfl) ?_ _
        refine NoPanic.normal ?_
        cases b <;> cases x1 <;> cases x2 <;>
          · go_wp2
            go_roundw
            case rel => exact ⟨k + 1, _, hlt, by go_num, rfl, (conK_next HBb.out HX1.out HX2.out), HB2e.out⟩
            case measure => simp [intOf]; omega
    · have hkk : k = ws.length + 1 := by omega
      have hbb : bi = b := by
        rw [Bool.eq_iff_iff, HBi.out, HBb.out, HIf.out, hkk]
      subst hbb
      have HE := Lib.hid (bthen HB7.out HBz.out HB7.out.size)
      have hk5 : ¬ (k : Int) < (ws.length : Int) + 1 := by omega
      clear hkk
      cases bi
      · go_wp2
        go_ret
        exact ⟨rfl, HE.out⟩
      · go_wp2
        go_ret
        exact ⟨rfl, HE.out⟩
theorem closedConcat_row (l m n : List Int) (v u x : Value) (W : World) (h : Vl W (OldS W) l v) (k : Vl W (OldS W) m u) (j : Vl W (OldS W) n x) (hT : Tab32 W) :
    Calls Tryd.prog 4 #[v, u, x] W fun e W' => e = .returned (.bool true) ∧ Below W.heap.size W W' := by
  obtain ⟨A, c, rfl, k1, k2, hA⟩ := h.slice
  obtain ⟨B, d, rfl, k3, k4, hB⟩ := k.slice
  obtain ⟨C, f, rfl, k5, k6, hC⟩ := j.slice
  exact closedConcat_any A B C c d f l m n (OldS W) W k1 k2 hA k3 k4 hB k5 k6 hC (fun b h => h) hT
end Go.Proofs.YtpkfalhpkkponaaDoor
