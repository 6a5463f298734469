/- Contract: the law NormalForm: true at every input. -/
import Derived.Test.YtecofoilghdedaaQNormals
import Derived.Test.YtecofoilghdedaaQp1
import Derived.Test.YtecofoilghdedaaQApartP
import Derived.Test.YtecofoilghdedaaQCmpInts
namespace Go.Proofs.Ytecofoilghdedaa
open Go.RowKit
set_option linter.unusedVariables false

theorem cmp3_lt {t u : NPair} (h : ltNP t u) : cmpL [t.left, t.a, t.b] [u.left, u.a, u.b] = -1 := by
  unfold ltNP at h
  simp only [cmpL]
  rcases h with h | ⟨h1, h | ⟨h2, h3⟩⟩
  · rw [if_pos h]
  · rw [if_neg (by omega), if_neg (by omega), if_pos h]
  · rw [if_neg (by omega), if_neg (by omega), if_neg (by omega), if_neg (by omega), if_pos h3]
theorem els3 {w : World} {S : Nat → Prop} {g : Nat} {t : TypeId} {a b c : Int} (hb : Blk' w g t #[.int .i64 a, .int .i64 b, .int .i64 c]) (h1 : I64 a) (h2 : I64 b) (h3 : I64 c) (hS : S g) : Els w S [a, b, c] (some ⟨g, 0, none⟩) := by
  refine els_of_blk [[.int .i64 a], [.int .i64 b], [.int .i64 c]] hb rfl rfl (fun i z cs hz hc => ?_) hS
  match i, hz, hc with
  | 0, hz, hc => simp at hz hc; subst hz; subst hc; exact ⟨rfl, h1⟩
  | 1, hz, hc => simp at hz hc; subst hz; subst hc; exact ⟨rfl, h2⟩
  | 2, hz, hc => simp at hz hc; subst hz; subst hc; exact ⟨rfl, h3⟩

set_option maxRecDepth 100000 in
set_option maxHeartbeats 8000000 in
theorem normalForm_any (A0 : Option Addr) (c0 : Nat) (raw : List Int) (S0 : Nat → Prop) (w : World) (h1 : raw.length ≤ c0) (h2 : c0 ≤ 9223372036854775807) (hA0 : Els w S0 raw A0) (hS0 : ∀ b, S0 b → b < w.heap.size) :
    Calls Try.prog 3 #[.slice A0 raw.length c0] w fun e w' => e = .returned (.bool true) ∧ Below w.heap.size w w' := by
  go_enter Try.func3, Try.ntmps3
  go_wp2_with fail
  refine (grammar_any A0 c0 raw S0 _ h1 h2 hA0 hS0).mono ?_
  rintro e w1 ⟨g, v, hmade, rfl, hvl, hb1⟩
  obtain ⟨s, rfl, _, _, _, hs⟩ := hvl.gram
  obtain ⟨A, c, rfl, hlc, hc, hA⟩ := hs.slice
  have hck := made_check hmade
  have hvg := validG_of hck
  obtain ⟨t, nn, s0, rs⟩ := g
  dsimp only at *
  obtain ⟨n, hn⟩ : ∃ n : Nat, nn = (n : Int) := ⟨nn.toNat, by have := hvg.n1; dsimp only at this; omega⟩
  obtain ⟨m, hm⟩ : ∃ m : Nat, t = (m : Int) := ⟨t.toNat, by have := hvg.t1; dsimp only at this; omega⟩
  obtain ⟨s, hs0⟩ : ∃ s : Nat, s0 = (s : Int) := ⟨s0.toNat, by have := hvg.s0; dsimp only at this; omega⟩
  subst hn; subst hm; subst hs0
  have HCk := Lib.hid hck
  have HV := Lib.hid hvg
  have hN74 := leafN_le hvg rfl
  have hm8 := hvg.t8
  dsimp only at hN74 hm8
  have HA1 := Lib.hid hA
  obtain ⟨w2, hw2⟩ : ∃ w2 : World, w2 = w1.alloc (.cells #[.int .i64 (m : Int), .int .i64 (n : Int), .int .i64 (s : Int), .slice A rs.length c] 25) := ⟨_, rfl⟩
  have HW2 := Lib.hid hw2
  have HG2 : Hid (Blk' w2 w1.heap.size 25 #[.int .i64 (m : Int), .int .i64 (n : Int), .int .i64 (s : Int), .slice A rs.length c]) := Lib.hid (by rw [hw2]; exact Blk'.new _ _ _)
  have hb2 : Below w1.heap.size w1 w2 := by rw [hw2]; exact (Below.refl _ _).alloc (Nat.le_refl _) _
  have HB2 := Lib.hid (bthen hb1 hb2 hb1.size)
  have HA2 := Lib.hid (HA1.out.below hb2)
  have HZ2 : Hid (w1.heap.size ≤ w2.heap.size) := Lib.hid hb2.size
  clear hvl hs hA hb1 hmade hA0 hck hvg hw2 hb2
  go_upto_region 2 with (fail)
  rw [← HW2.out]
  have g0 : w2.cell? ⟨w1.heap.size, 0, none⟩ = some (.int .i64 (m : Int)) := HG2.out.cell 0
  have g1 : w2.cell? ⟨w1.heap.size, 1, none⟩ = some (.int .i64 (n : Int)) := HG2.out.cell 1
  have g2 : w2.cell? ⟨w1.heap.size, 2, none⟩ = some (.int .i64 (s : Int)) := HG2.out.cell 2
  have g3 : w2.cell? ⟨w1.heap.size, 3, none⟩ = some (.slice A rs.length c) := HG2.out.cell 3
  have zG : w1.heap.size < w2.heap.size := HG2.out.lt
  go_wp2_with fail
  refine (normOf_any m n s rs A c _ w2 HCk.out hlc hc HA2.out (fun b hb => by have := hb.2; have := HZ2.out; omega)).mono ?_
  rintro e w3 ⟨A1, c1, A2, c2, em, xs, ys, rfl, hem, hx, hy, hxl, hyl, hc1, hc1m, hc2, hc2m, hE1, hE2, hb3⟩
  obtain ⟨N, hN⟩ : ∃ N, N = leafN n rs + m := ⟨_, rfl⟩
  have HN := Lib.hid hN
  have hNge : n + m ≤ N := by rw [hN]; unfold leafN; omega
  have hN9 : N ≤ 82 := by omega
  rw [← hN] at hx hy
  rw [← hN]
  obtain ⟨X, hX⟩ : ∃ X, X = NPairX m n rs := ⟨_, rfl⟩
  obtain ⟨Y, hY⟩ : ∃ Y, Y = NOneX m n rs := ⟨_, rfl⟩
  rw [← hX] at hx
  rw [← hY] at hy
  have HPx := Lib.hid hx
  have HOy := Lib.hid hy
  obtain ⟨w4, hw4⟩ : ∃ w4 : World, w4 = w3.alloc (.cells #[.int .i64 (m : Int), .int .i64 (N : Int), .int .i64 (s : Int), .bool em, .slice A1 xs.length c1, .slice A2 ys.length c2] 30) := ⟨_, rfl⟩
  have HW4 := Lib.hid hw4
  have hb4 : Below w3.heap.size w3 w4 := by rw [hw4]; exact (Below.refl _ _).alloc (Nat.le_refl _) _
  have HO4 : Hid (Blk' w4 w3.heap.size 30 #[.int .i64 (m : Int), .int .i64 (N : Int), .int .i64 (s : Int), .bool em, .slice A1 xs.length c1, .slice A2 ys.length c2]) := Lib.hid (by rw [hw4]; exact Blk'.new _ _ _)
  have HG4 := Lib.hid ((HG2.out.below hb3 HG2.out.lt).below hb4 (HG2.out.below hb3 HG2.out.lt).lt)
  have HE1 := Lib.hid (hE1.below hb4)
  have HE2 := Lib.hid (hE2.below hb4)
  have HB4 := Lib.hid (bthen (bthen HB2.out hb3 HB2.out.size) hb4 (by have := HB2.out.size; have := hb3.size; omega))
  have HZ4 : Hid (w3.heap.size < w4.heap.size) := Lib.hid (by rw [hw4]; simp)
  clear g0 g1 g2 g3 zG hb3 hb4 hw4 hE1 hE2 hx hy hem hN hX hY
  go_upto_region 3 with (fail)
  rw [← HW4.out]
  clear HW2 HW4
  go_wp2_with fail
  refine (normals_any w4).mono ?_
  rintro e w5 ⟨rfl, hb5⟩
  have HO5 := Lib.hid (HO4.out.below hb5 HO4.out.lt)
  have HG5 := Lib.hid (HG4.out.below hb5 HG4.out.lt)
  have HE1' := Lib.hid (HE1.out.below hb5)
  have HE2' := Lib.hid (HE2.out.below hb5)
  have HB5 := Lib.hid (bthen HB4.out hb5 HB4.out.size)
  have HZ5 : Hid (w4.heap.size ≤ w5.heap.size) := Lib.hid hb5.size
  have g0 : w5.cell? ⟨w1.heap.size, 0, none⟩ = some (.int .i64 (m : Int)) := HG5.out.cell 0
  have g1 : w5.cell? ⟨w1.heap.size, 1, none⟩ = some (.int .i64 (n : Int)) := HG5.out.cell 1
  have g2 : w5.cell? ⟨w1.heap.size, 2, none⟩ = some (.int .i64 (s : Int)) := HG5.out.cell 2
  have o0 : w5.cell? ⟨w3.heap.size, 0, none⟩ = some (.int .i64 (m : Int)) := HO5.out.cell 0
  have o1 : w5.cell? ⟨w3.heap.size, 1, none⟩ = some (.int .i64 (N : Int)) := HO5.out.cell 1
  have o2 : w5.cell? ⟨w3.heap.size, 2, none⟩ = some (.int .i64 (s : Int)) := HO5.out.cell 2
  have o4 : w5.cell? ⟨w3.heap.size, 4, none⟩ = some (.slice A1 xs.length c1) := HO5.out.cell 4
  have zG : w1.heap.size < w5.heap.size := HG5.out.lt
  have zO : w3.heap.size < w5.heap.size := HO5.out.lt
  have hwr : IntKind.i64.wrap ((n : Int) + (m : Int)) = (n : Int) + (m : Int) := IntWalk.i64_in _ (by omega)
  have hlt : ¬ (N : Int) < (n : Int) + (m : Int) := by omega
  clear hb5 HO4 HG4 HE1 HE2 HB4
  go_wp2_with fail
  clear g0 g1 g2 o0 o1 o2 o4 hwr hlt zG zO
  go_loopw [50] (fun i wr => ∃ k : Nat, k ≤ xs.length ∧ i = .int .i64 k ∧ Below w5.heap.size w5 wr) (fun i _ => xs.length - (intOf i).toNat)
  case atStart => exact ⟨0, Nat.zero_le _, rfl, Below.refl _ _⟩
  case round =>
    obtain ⟨wo, hwo⟩ : ∃ wo : World, wo = wr := ⟨_, rfl⟩
    subst hwo
    obtain ⟨k, hk, rfl, hbo⟩ := hrel
    have HBo := Lib.hid hbo
    have HOo := Lib.hid (HO5.out.below hbo HO5.out.lt)
    clear hbo
    by_cases hkn : k < xs.length
    · obtain ⟨p, hp⟩ := get_some hkn
      have hpi := ((HPx.out.is p).1 (List.mem_of_getElem? hp)).1
      have hEo := HE1'.out.below HBo.out
      obtain ⟨bx, ox, eA1, hSx, hbx, hpi64, x0, x1, x2⟩ := hEo.npair hp
      have HEo := Lib.hid hEo
      have HP := Lib.hid hp
      subst eA1
      obtain ⟨pl, pa, pb⟩ := p
      obtain ⟨⟨l1, l2⟩, ⟨a1, a2⟩, b1, b2⟩ := hpi
      dsimp only at l1 l2 a1 a2 b1 b2 x0 x1 x2 hpi64
      have hk0 : (0 : Int) ≤ (k : Int) := by omega
      have hk9 : (k : Int) < (xs.length : Int) := by omega
      obtain ⟨w6, hw6⟩ : ∃ w6 : World, w6 = wo.alloc (.cells #[.int .i64 pl, .int .i64 pa, .int .i64 pb] 36) := ⟨_, rfl⟩
      have HW6 := Lib.hid hw6
      have hb6 : Below wo.heap.size wo w6 := by rw [hw6]; exact (Below.refl _ _).alloc (Nat.le_refl _) _
      have HX6 : Hid (Blk' w6 wo.heap.size 36 #[.int .i64 pl, .int .i64 pa, .int .i64 pb]) := Lib.hid (by rw [hw6]; exact Blk'.new _ _ _)
      have HO6 := Lib.hid (HOo.out.below hb6 HOo.out.lt)
      have HB6 := Lib.hid (bthen HBo.out hb6 HBo.out.size)
      have HE6 := Lib.hid (HEo.out.below hb6)
      have HI := Lib.hid hpi64
      clear hw6 hb6 hp hEo hpi64
      go_upto_region 8 with (fail)
      rw [← HW6.out]
      have y0 : w6.cell? ⟨wo.heap.size, 0, none⟩ = some (.int .i64 pl) := HX6.out.cell 0
      have y1 : w6.cell? ⟨wo.heap.size, 1, none⟩ = some (.int .i64 pa) := HX6.out.cell 1
      have y2 : w6.cell? ⟨wo.heap.size, 2, none⟩ = some (.int .i64 pb) := HX6.out.cell 2
      have o1 : w6.cell? ⟨w3.heap.size, 1, none⟩ = some (.int .i64 (N : Int)) := HO6.out.cell 1
      have o4 : w6.cell? ⟨w3.heap.size, 4, none⟩ = some (.slice (some ⟨bx, ox, none⟩) xs.length c1) := HO6.out.cell 4
      have zX : wo.heap.size < w6.heap.size := HX6.out.lt
      have zO : w3.heap.size < w6.heap.size := HO6.out.lt
      clear x0 x1 x2 hbx hSx HW6
      obtain ⟨mn1, hmn1⟩ : ∃ z, (if pa < pl then pa else pl) = z := ⟨_, rfl⟩
      obtain ⟨mn2, hmn2⟩ : ∃ z, (if pb < mn1 then pb else mn1) = z := ⟨_, rfl⟩
      obtain ⟨mx1, hmx1⟩ : ∃ z, (if pl < pa then pa else pl) = z := ⟨_, rfl⟩
      obtain ⟨mx2, hmx2⟩ : ∃ z, (if mx1 < pb then pb else mx1) = z := ⟨_, rfl⟩
      have hlo : ¬ mn2 < 0 := by rw [← hmn2, ← hmn1]; split <;> (try split) <;> omega
      have hhi : ¬ (N : Int) ≤ mx2 := by rw [← hmx2, ← hmx1]; split <;> (try split at *) <;> omega
      go_upto_region 10 with (fail)
      clear y0 y1 y2 o1 o4 zX zO hmn1 hmn2 hmx1 hmx2 hlo hhi
      have HWk := Lib.hid (And.intro l1 (And.intro l2 (And.intro a1 (And.intro a2 (And.intro b1 b2)))))
      clear l1 l2 a1 a2 b1 b2
      cases k with
      | zero =>
        go_quiet (fail)
        go_wp2_with fail
        go_roundw
        case rel => exact ⟨1, hkn, by go_num, bthen HB6.out (bdrewN (Below.refl _ _)) HB6.out.size⟩
        case measure => simp [intOf]; omega
      | succ k =>
        obtain ⟨q, hq⟩ := get_some (show k < xs.length by omega)
        obtain ⟨bx', ox', eA1, hSx, hbx, hqi64, x0, x1, x2⟩ := HE6.out.npair hq
        injection eA1 with eA1
        injection eA1 with e5 e6 _
        subst e5; subst e6
        have HLt : Hid (ltNP q ⟨pl, pa, pb⟩) := Lib.hid (List.pairwise_iff_getElem.1 HPx.out.sorted k (k + 1) (by omega) hkn (by omega) |> fun h => by
          rw [List.getElem?_eq_getElem (by omega)] at hq
          have hp2 := HP.out
          rw [List.getElem?_eq_getElem hkn] at hp2
          injection hq with hq
          injection hp2 with hp2
          rw [hq, hp2] at h
          exact h)
        have HQ64 := Lib.hid hqi64
        obtain ⟨ql, qa, qb⟩ := q
        dsimp only at x0 x1 x2
        have y0 : w6.cell? ⟨wo.heap.size, 0, none⟩ = some (.int .i64 pl) := HX6.out.cell 0
        have y1 : w6.cell? ⟨wo.heap.size, 1, none⟩ = some (.int .i64 pa) := HX6.out.cell 1
        have y2 : w6.cell? ⟨wo.heap.size, 2, none⟩ = some (.int .i64 pb) := HX6.out.cell 2
        have o4 : w6.cell? ⟨w3.heap.size, 4, none⟩ = some (.slice (some ⟨bx, ox, none⟩) xs.length c1) := HO6.out.cell 4
        have zX : wo.heap.size < w6.heap.size := HX6.out.lt
        have zO : w3.heap.size < w6.heap.size := HO6.out.lt
        have hwk : IntKind.i64.wrap (k : Int) = (k : Int) := IntWalk.i64_in _ (by omega)
        have hk00 : (0 : Int) < (k : Int) + 1 := by omega
        have hkx : (k : Int) < (xs.length : Int) := by omega
        have hkz : (0 : Int) ≤ (k : Int) := by omega
        clear hq hqi64 hSx
        go_wp2_with fail
        refine wp_region_noPanic ?_
        refine wp_region_held_drew (S := (fun w' => w'.cell? ⟨w3.heap.size, 4, none⟩ = some (.slice (some ⟨bx, ox, none⟩) xs.length c1) ∧ w'.cell? ⟨bx, ox + k * 3, none⟩ = some (.int .i64 ql) ∧ w'.cell? ⟨bx, ox + k * 3 + 1, none⟩ = some (.int .i64 qa) ∧ w'.cell? ⟨bx, ox + k * 3 + 2, none⟩ = some (.int .i64 qb) ∧ w'.cell? ⟨wo.heap.size, 0, none⟩ = some (.int .i64 pl) ∧ w'.cell? ⟨wo.heap.size, 1, none⟩ = some (.int .i64 pa) ∧ w'.cell? ⟨wo.heap.size, 2, none⟩ = some (.int .i64 pb))) (by kernel_rfl) ?ha (fun hHeld => ?ba)
        case ha => ((try dsimp only); go_keep)
        refine take_run (i := 0) (v := ?va0) rfl (by kernel_rfl) (by kernel_rfl) (by kernel_rfl) (fun _ _ _ h => h) (by rfl) ?ya0 (by assumption) ?ra0
        case ya0 => (intro w hSw; (try dsimp only at hSw); go_simp; try with_reducible rfl)
        try simp only [Act.put, List.setIfInBounds_toArray, List.set_cons_zero, List.set_cons_succ]
        refine take_run (i := 1) (v := ?va1) rfl (by kernel_rfl) (by kernel_rfl) (by kernel_rfl) (fun _ _ _ h => h) (by rfl) ?ya1 (by assumption) ?ra1
        case ya1 => (intro w hSw; (try dsimp only at hSw); go_simp; try with_reducible rfl)
        try simp only [Act.put, List.setIfInBounds_toArray, List.set_cons_zero, List.set_cons_succ]
        refine take_run (i := 2) (v := ?va2) rfl (by kernel_rfl) (by kernel_rfl) (by kernel_rfl) (fun _ _ _ h => h) (by rfl) ?ya2 (by assumption) ?ra2
        case ya2 => (intro w hSw; (try dsimp only at hSw); go_simp; try with_reducible rfl)
        try simp only [Act.put, List.setIfInBounds_toArray, List.set_cons_zero, List.set_cons_succ]
        refine take_run (i := 3) (v := ?va3) rfl (by kernel_rfl) (by kernel_rfl) (by kernel_rfl) (fun _ _ _ h => h) (by rfl) ?ya3 (by assumption) ?ra3
        case ya3 => (intro w hSw; (try dsimp only at hSw); go_simp; try with_reducible rfl)
        try simp only [Act.put, List.setIfInBounds_toArray, List.set_cons_zero, List.set_cons_succ]
        refine take_run (i := 4) (v := ?va4) rfl (by kernel_rfl) (by kernel_rfl) (by kernel_rfl) (fun _ _ _ h => h) (by rfl) ?ya4 (by assumption) ?ra4
        case ya4 => (intro w hSw; (try dsimp only at hSw); go_simp; try with_reducible rfl)
        try simp only [Act.put, List.setIfInBounds_toArray, List.set_cons_zero, List.set_cons_succ]
        refine take_run (i := 5) (v := ?va5) rfl (by kernel_rfl) (by kernel_rfl) (by kernel_rfl) (fun _ _ _ h => h) (by rfl) ?ya5 (by assumption) ?ra5
        case ya5 => (intro w hSw; (try dsimp only at hSw); go_simp; try with_reducible rfl)
        try simp only [Act.put, List.setIfInBounds_toArray, List.set_cons_zero, List.set_cons_succ]
        refine take_run (i := 6) (v := ?va6) rfl (by kernel_rfl) (by kernel_rfl) (by kernel_rfl) (fun _ _ _ h => h) (by rfl) ?ya6 (by assumption) ?ra6
        case ya6 => (intro w hSw; (try dsimp only at hSw); go_simp; try with_reducible rfl)
        try simp only [Act.put, List.setIfInBounds_toArray, List.set_cons_zero, List.set_cons_succ]
        refine take_run (i := 7) (v := ?va7) rfl (by kernel_rfl) (by kernel_rfl) (by kernel_rfl) (fun _ _ _ h => h) (by rfl) ?ya7 (by assumption) ?ra7
        case ya7 => (intro w hSw; (try dsimp only at hSw); go_simp; try with_reducible rfl)
        try simp only [Act.put, List.setIfInBounds_toArray, List.set_cons_zero, List.set_cons_succ]
        refine take_run (i := 8) (v := ?va8) rfl (by kernel_rfl) (by kernel_rfl) (by kernel_rfl) (fun _ _ _ h => h) (by rfl) ?ya8 (by assumption) ?ra8
        case ya8 => (intro w hSw; (try dsimp only at hSw); go_simp; try with_reducible rfl)
        try simp only [Act.put, List.setIfInBounds_toArray, List.set_cons_zero, List.set_cons_succ]
        refine take_run (i := 9) (v := ?va9) rfl (by kernel_rfl) (by kernel_rfl) (by kernel_rfl) (fun _ _ _ h => h) (by rfl) ?ya9 (by assumption) ?ra9
        case ya9 => (intro w hSw; (try dsimp only at hSw); go_simp; try with_reducible rfl)
        try simp only [Act.put, List.setIfInBounds_toArray, List.set_cons_zero, List.set_cons_succ]
        refine take_run (i := 10) (v := ?va10) rfl (by kernel_rfl) (by kernel_rfl) (by kernel_rfl) (fun _ _ _ h => h) (by rfl) ?ya10 (by assumption) ?ra10
        case ya10 => (intro w hSw; (try dsimp only at hSw); go_simp; try with_reducible rfl)
        try simp only [Act.put, List.setIfInBounds_toArray, List.set_cons_zero, List.set_cons_succ]
        refine take_run (i := 11) (v := ?va11) rfl (by kernel_rfl) (by kernel_rfl) (by kernel_rfl) (fun _ _ _ h => h) (by rfl) ?ya11 (by assumption) ?ra11
        case ya11 => (intro w hSw; (try dsimp only at hSw); go_simp; try with_reducible rfl)
        try simp only [Act.put, List.setIfInBounds_toArray, List.set_cons_zero, List.set_cons_succ]
        refine take_run (i := 12) (v := ?va12) rfl (by kernel_rfl) (by kernel_rfl) (by kernel_rfl) (fun _ _ _ h => h) (by rfl) ?ya12 (by assumption) ?ra12
        case ya12 => (intro w hSw; (try dsimp only at hSw); go_simp; try with_reducible rfl)
        try simp only [Act.put, List.setIfInBounds_toArray, List.set_cons_zero, List.set_cons_succ]
        refine take_run (i := 13) (v := ?va13) rfl (by kernel_rfl) (by kernel_rfl) (by kernel_rfl) (fun _ _ _ h => h) (by rfl) ?ya13 (by assumption) ?ra13
        case ya13 => (intro w hSw; (try dsimp only at hSw); go_simp; try with_reducible rfl)
        try simp only [Act.put, List.setIfInBounds_toArray, List.set_cons_zero, List.set_cons_succ]
        refine take_run (i := 14) (v := ?va14) rfl (by kernel_rfl) (by kernel_rfl) (by kernel_rfl) (fun _ _ _ h => h) (by rfl) ?ya14 (by assumption) ?ra14
        case ya14 => (intro w hSw; (try dsimp only at hSw); go_simp; try with_reducible rfl)
        try simp only [Act.put, List.setIfInBounds_toArray, List.set_cons_zero, List.set_cons_succ]
        refine take_run (i := 15) (v := ?va15) rfl (by kernel_rfl) (by kernel_rfl) (by kernel_rfl) (fun _ _ _ h => h) (by rfl) ?ya15 (by assumption) ?ra15
        case ya15 => (intro w hSw; (try dsimp only at hSw); go_simp; try with_reducible rfl)
        try simp only [Act.put, List.setIfInBounds_toArray, List.set_cons_zero, List.set_cons_succ]
        refine take_run (i := 16) (v := ?va16) rfl (by kernel_rfl) (by kernel_rfl) (by kernel_rfl) (fun _ _ _ h => h) (by rfl) ?ya16 (by assumption) ?ra16
        case ya16 => (intro w hSw; (try dsimp only at hSw); go_simp; try with_reducible rfl)
        try simp only [Act.put, List.setIfInBounds_toArray, List.set_cons_zero, List.set_cons_succ]
        refine take_run (i := 17) (v := ?va17) rfl (by kernel_rfl) (by kernel_rfl) (by kernel_rfl) (fun _ _ _ h => h) (by rfl) ?ya17 (by assumption) ?ra17
        case ya17 => (intro w hSw; (try dsimp only at hSw); go_simp; try with_reducible rfl)
        try simp only [Act.put, List.setIfInBounds_toArray, List.set_cons_zero, List.set_cons_succ]
        refine take_run (i := 18) (v := ?va18) rfl (by kernel_rfl) (by kernel_rfl) (by kernel_rfl) (fun _ _ _ h => h) (by rfl) ?ya18 (by assumption) ?ra18
        case ya18 => (intro w hSw; (try dsimp only at hSw); go_simp; try with_reducible rfl)
        try simp only [Act.put, List.setIfInBounds_toArray, List.set_cons_zero, List.set_cons_succ]
        refine take_run (i := 19) (v := ?va19) rfl (by kernel_rfl) (by kernel_rfl) (by kernel_rfl) (fun _ _ _ h => h) (by rfl) ?ya19 (by assumption) ?ra19
        case ya19 => (intro w hSw; (try dsimp only at hSw); go_simp; try with_reducible rfl)
        try simp only [Act.put, List.setIfInBounds_toArray, List.set_cons_zero, List.set_cons_succ]
        refine take_run (i := 20) (v := ?va20) rfl (by kernel_rfl) (by kernel_rfl) (by kernel_rfl) (fun _ _ _ h => h) (by rfl) ?ya20 (by assumption) ?ra20
        case ya20 => (intro w hSw; (try dsimp only at hSw); go_simp; try with_reducible rfl)
        try simp only [Act.put, List.setIfInBounds_toArray, List.set_cons_zero, List.set_cons_succ]
        refine take_run (i := 21) (v := ?va21) rfl (by kernel_rfl) (by kernel_rfl) (by kernel_rfl) (fun _ _ _ h => h) (by rfl) ?ya21 (by assumption) ?ra21
        case ya21 => (intro w hSw; (try dsimp only at hSw); go_simp; try with_reducible rfl)
        try simp only [Act.put, List.setIfInBounds_toArray, List.set_cons_zero, List.set_cons_succ]
        refine take_run (i := 22) (v := ?va22) rfl (by kernel_rfl) (by kernel_rfl) (by kernel_rfl) (fun _ _ _ h => h) (by rfl) ?ya22 (by assumption) ?ra22
        case ya22 => (intro w hSw; (try dsimp only at hSw); go_simp; try with_reducible rfl)
        try simp only [Act.put, List.setIfInBounds_toArray, List.set_cons_zero, List.set_cons_succ]
        refine take_run (i := 23) (v := ?va23) rfl (by kernel_rfl) (by kernel_rfl) (by kernel_rfl) (fun _ _ _ h => h) (by rfl) ?ya23 (by assumption) ?ra23
        case ya23 => (intro w hSw; (try dsimp only at hSw); go_simp; try with_reducible rfl)
        try simp only [Act.put, List.setIfInBounds_toArray, List.set_cons_zero, List.set_cons_succ]
        refine take_run (i := 25) (v := ?va25) rfl (by kernel_rfl) (by kernel_rfl) (by kernel_rfl) (fun _ _ _ h => h) (by rfl) ?ya25 (by assumption) ?ra25
        case ya25 => (intro w hSw; (try dsimp only at hSw); go_simp; try with_reducible rfl)
        try simp only [Act.put, List.setIfInBounds_toArray, List.set_cons_zero, List.set_cons_succ]
        refine take_run (i := 26) (v := ?va26) rfl (by kernel_rfl) (by kernel_rfl) (by kernel_rfl) (fun _ _ _ h => h) (by rfl) ?ya26 (by assumption) ?ra26
        case ya26 => (intro w hSw; (try dsimp only at hSw); go_simp; try with_reducible rfl)
        try simp only [Act.put, List.setIfInBounds_toArray, List.set_cons_zero, List.set_cons_succ]
        refine take_run (i := 27) (v := ?va27) rfl (by kernel_rfl) (by kernel_rfl) (by kernel_rfl) (fun _ _ _ h => h) (by rfl) ?ya27 (by assumption) ?ra27
        case ya27 => (intro w hSw; (try dsimp only at hSw); go_simp; try with_reducible rfl)
        try simp only [Act.put, List.setIfInBounds_toArray, List.set_cons_zero, List.set_cons_succ]
        refine take_run (i := 28) (v := ?va28) rfl (by kernel_rfl) (by kernel_rfl) (by kernel_rfl) (fun _ _ _ h => h) (by rfl) ?ya28 (by assumption) ?ra28
        case ya28 => (intro w hSw; (try dsimp only at hSw); go_simp; try with_reducible rfl)
        try simp only [Act.put, List.setIfInBounds_toArray, List.set_cons_zero, List.set_cons_succ]
        refine take_run (i := 29) (v := ?va29) rfl (by kernel_rfl) (by kernel_rfl) (by kernel_rfl) (fun _ _ _ h => h) (by rfl) ?ya29 (by assumption) ?ra29
        case ya29 => (intro w hSw; (try dsimp only at hSw); go_simp; try with_reducible rfl)
        try simp only [Act.put, List.setIfInBounds_toArray, List.set_cons_zero, List.set_cons_succ]
        refine take_run (i := 30) (v := ?va30) rfl (by kernel_rfl) (by kernel_rfl) (by kernel_rfl) (fun _ _ _ h => h) (by rfl) ?ya30 (by assumption) ?ra30
        case ya30 => (intro w hSw; (try dsimp only at hSw); go_simp; try with_reducible rfl)
        try simp only [Act.put, List.setIfInBounds_toArray, List.set_cons_zero, List.set_cons_succ]
        refine take_two (i := 24) (j := 31) rfl rfl (by kernel_rfl) (by rfl) (by rfl) (fun Kq hK => ?one24) (fun Kq hK => ?two24)
        case one24 =>
          go_simp
          refine hK.out _ _ ?hb24 (fun hHeld => ?rb24)
          case hb24 => ((try dsimp only); go_keep)
          clear hK Kq
          try simp only [Act.put, List.setIfInBounds_toArray, List.set_cons_zero, List.set_cons_succ]
          refine take_call (i := 31) rfl (by kernel_rfl) (by rfl) (fun Kq hK => ?_)
          go_simp
          refine hK.out _ _ ?hb31 (fun hHeld => ?rb31)
          case hb31 => ((try dsimp only); go_keep)
          clear hK Kq
          try simp only [Act.put, List.setIfInBounds_toArray, List.set_cons_zero, List.set_cons_succ]
          refine take_call (i := 32) rfl (by kernel_rfl) (by rfl) (fun Kq hK => ?_)
          go_simp
          go_at_call 8
          obtain ⟨w9, hw9⟩ : ∃ w9 : World, w9 = ((w6.alloc (.cells #[.int .i64 ql, .int .i64 qa, .int .i64 qb] 3)).alloc (.cells #[.int .i64 pl, .int .i64 pa, .int .i64 pb] 3)).drew := ⟨_, rfl⟩
          rw [← hw9]
          have hb9 : Below w6.heap.size w6 w9 := by rw [hw9]; exact (((Below.refl _ _).alloc (Nat.le_refl _) _).alloc (by simp) _).drew
          refine (compareInts_any [ql, qa, qb] [pl, pa, pb] (some ⟨w6.heap.size, 0, none⟩) (some ⟨(w6.heap.size + 1), 0, none⟩) 3 3 (fun _ => True) (fun _ => True) w9 (by simp) (by simp) (els3 (by rw [hw9]; exact ((Blk'.new _ _ _).alloc _).drew) HQ64.out.1 HQ64.out.2.1 HQ64.out.2.2 trivial) (els3 (by rw [hw9]; exact (Blk'.new' _ _ _ (by simp)).drew) HI.out.1 HI.out.2.1 HI.out.2.2 trivial)).mono ?_
          rintro e w10 ⟨rfl, rfl⟩
          rw [cmp3_lt HLt.out]
          have HB9 := Lib.hid hb9
          have y0b : w9.cell? ⟨wo.heap.size, 0, none⟩ = some (.int .i64 pl) := (hb9.cell (p := ⟨wo.heap.size, 0, none⟩) zX).trans y0
          have y1b : w9.cell? ⟨wo.heap.size, 1, none⟩ = some (.int .i64 pa) := (hb9.cell (p := ⟨wo.heap.size, 1, none⟩) zX).trans y1
          have y2b : w9.cell? ⟨wo.heap.size, 2, none⟩ = some (.int .i64 pb) := (hb9.cell (p := ⟨wo.heap.size, 2, none⟩) zX).trans y2
          have o4b : w9.cell? ⟨w3.heap.size, 4, none⟩ = some (.slice (some ⟨bx, ox, none⟩) xs.length c1) := (hb9.cell (p := ⟨w3.heap.size, 4, none⟩) zO).trans o4
          have x0b : w9.cell? ⟨bx, ox + k * 3, none⟩ = some (.int .i64 ql) := (hb9.cell (p := ⟨bx, ox + k * 3, none⟩) hbx).trans x0
          have x1b : w9.cell? ⟨bx, ox + k * 3 + 1, none⟩ = some (.int .i64 qa) := (hb9.cell (p := ⟨bx, ox + k * 3 + 1, none⟩) hbx).trans x1
          have x2b : w9.cell? ⟨bx, ox + k * 3 + 2, none⟩ = some (.int .i64 qb) := (hb9.cell (p := ⟨bx, ox + k * 3 + 2, none⟩) hbx).trans x2
          clear hb9 hw9
          refine hK.out _ _ ?hb32 (fun hHeld => ?rb32)
          case hb32 => ((try dsimp only); go_keep)
          clear hK Kq
          try simp only [Act.put, List.setIfInBounds_toArray, List.set_cons_zero, List.set_cons_succ]
          refine take_run (i := 33) (v := ?vb33) rfl (by kernel_rfl) (by kernel_rfl) (by kernel_rfl) (fun _ _ _ h => h) (by rfl) ?yb33 (by assumption) ?rb33
          case yb33 => (intro w hSw; (try dsimp only at hSw); go_simp; try with_reducible rfl)
          try simp only [Act.put, List.setIfInBounds_toArray, List.set_cons_zero, List.set_cons_succ]
          refine take_run (i := 34) (v := ?vb34) rfl (by kernel_rfl) (by kernel_rfl) (by kernel_rfl) (fun _ _ _ h => h) (by rfl) ?yb34 (by assumption) ?rb34
          case yb34 => (intro w hSw; (try dsimp only at hSw); go_simp; try with_reducible rfl)
          try simp only [Act.put, List.setIfInBounds_toArray, List.set_cons_zero, List.set_cons_succ]
          refine wpAnyH_done (by kernel_rfl) ?_ _
          refine NoPanic.normal ?_
          go_wp2_with fail
          go_roundw
          case rel => exact ⟨k + 1 + 1, hkn, by go_num, bthen HB6.out HB9.out HB6.out.size⟩
          case measure => simp [intOf]; omega
        case two24 =>
          go_simp
          refine hK.out _ _ ?hc31 (fun hHeld => ?rc31)
          case hc31 => ((try dsimp only); go_keep)
          clear hK Kq
          try simp only [Act.put, List.setIfInBounds_toArray, List.set_cons_zero, List.set_cons_succ]
          refine take_call (i := 24) rfl (by kernel_rfl) (by rfl) (fun Kq hK => ?_)
          go_simp
          refine hK.out _ _ ?hc24 (fun hHeld => ?rc24)
          case hc24 => ((try dsimp only); go_keep)
          clear hK Kq
          try simp only [Act.put, List.setIfInBounds_toArray, List.set_cons_zero, List.set_cons_succ]
          refine take_call (i := 32) rfl (by kernel_rfl) (by rfl) (fun Kq hK => ?_)
          go_simp
          go_at_call 8
          obtain ⟨w9, hw9⟩ : ∃ w9 : World, w9 = ((w6.alloc (.cells #[.int .i64 pl, .int .i64 pa, .int .i64 pb] 3)).alloc (.cells #[.int .i64 ql, .int .i64 qa, .int .i64 qb] 3)).drew := ⟨_, rfl⟩
          rw [← hw9]
          have hb9 : Below w6.heap.size w6 w9 := by rw [hw9]; exact (((Below.refl _ _).alloc (Nat.le_refl _) _).alloc (by simp) _).drew
          refine (compareInts_any [ql, qa, qb] [pl, pa, pb] (some ⟨(w6.heap.size + 1), 0, none⟩) (some ⟨w6.heap.size, 0, none⟩) 3 3 (fun _ => True) (fun _ => True) w9 (by simp) (by simp) (els3 (by rw [hw9]; exact (Blk'.new' _ _ _ (by simp)).drew) HQ64.out.1 HQ64.out.2.1 HQ64.out.2.2 trivial) (els3 (by rw [hw9]; exact ((Blk'.new _ _ _).alloc _).drew) HI.out.1 HI.out.2.1 HI.out.2.2 trivial)).mono ?_
          rintro e w10 ⟨rfl, rfl⟩
          rw [cmp3_lt HLt.out]
          have HB9 := Lib.hid hb9
          have y0b : w9.cell? ⟨wo.heap.size, 0, none⟩ = some (.int .i64 pl) := (hb9.cell (p := ⟨wo.heap.size, 0, none⟩) zX).trans y0
          have y1b : w9.cell? ⟨wo.heap.size, 1, none⟩ = some (.int .i64 pa) := (hb9.cell (p := ⟨wo.heap.size, 1, none⟩) zX).trans y1
          have y2b : w9.cell? ⟨wo.heap.size, 2, none⟩ = some (.int .i64 pb) := (hb9.cell (p := ⟨wo.heap.size, 2, none⟩) zX).trans y2
          have o4b : w9.cell? ⟨w3.heap.size, 4, none⟩ = some (.slice (some ⟨bx, ox, none⟩) xs.length c1) := (hb9.cell (p := ⟨w3.heap.size, 4, none⟩) zO).trans o4
          have x0b : w9.cell? ⟨bx, ox + k * 3, none⟩ = some (.int .i64 ql) := (hb9.cell (p := ⟨bx, ox + k * 3, none⟩) hbx).trans x0
          have x1b : w9.cell? ⟨bx, ox + k * 3 + 1, none⟩ = some (.int .i64 qa) := (hb9.cell (p := ⟨bx, ox + k * 3 + 1, none⟩) hbx).trans x1
          have x2b : w9.cell? ⟨bx, ox + k * 3 + 2, none⟩ = some (.int .i64 qb) := (hb9.cell (p := ⟨bx, ox + k * 3 + 2, none⟩) hbx).trans x2
          clear hb9 hw9
          refine hK.out _ _ ?hc32 (fun hHeld => ?rc32)
          case hc32 => ((try dsimp only); go_keep)
          clear hK Kq
          try simp only [Act.put, List.setIfInBounds_toArray, List.set_cons_zero, List.set_cons_succ]
          refine take_run (i := 33) (v := ?vc33) rfl (by kernel_rfl) (by kernel_rfl) (by kernel_rfl) (fun _ _ _ h => h) (by rfl) ?yc33 (by assumption) ?rc33
          case yc33 => (intro w hSw; (try dsimp only at hSw); go_simp; try with_reducible rfl)
          try simp only [Act.put, List.setIfInBounds_toArray, List.set_cons_zero, List.set_cons_succ]
          refine take_run (i := 34) (v := ?vc34) rfl (by kernel_rfl) (by kernel_rfl) (by kernel_rfl) (fun _ _ _ h => h) (by rfl) ?yc34 (by assumption) ?rc34
          case yc34 => (intro w hSw; (try dsimp only at hSw); go_simp; try with_reducible rfl)
          try simp only [Act.put, List.setIfInBounds_toArray, List.set_cons_zero, List.set_cons_succ]
          refine wpAnyH_done (by kernel_rfl) ?_ _
          refine NoPanic.normal ?_
          go_wp2_with fail
          go_roundw
          case rel => exact ⟨k + 1 + 1, hkn, by go_num, bthen HB6.out HB9.out HB6.out.size⟩
          case measure => simp [intOf]; omega
    · have o5 : wo.cell? ⟨w3.heap.size, 5, none⟩ = some (.slice A2 ys.length c2) := HOo.out.cell 5
      have zO : w3.heap.size < wo.heap.size := HOo.out.lt
      clear hk
      go_wp2_with fail
      clear o5 zO hkn
      go_loopw [114] (fun i wr => ∃ k : Nat, k ≤ ys.length ∧ i = .int .i64 k ∧ Below w5.heap.size w5 wr) (fun i _ => ys.length - (intOf i).toNat)
      case atStart => exact ⟨0, Nat.zero_le _, rfl, HBo.out⟩
      case round =>
        obtain ⟨wi, hwi⟩ : ∃ wi : World, wi = wr := ⟨_, rfl⟩
        subst hwi
        obtain ⟨k, hk, rfl, hbo⟩ := hrel
        have HBi := Lib.hid hbo
        have HOi := Lib.hid (HO5.out.below hbo HO5.out.lt)
        clear hbo HOo HBo
        by_cases hkn : k < ys.length
        · obtain ⟨p, hp⟩ := get_some hkn
          have hpi := ((HOy.out.is p).1 (List.mem_of_getElem? hp)).1
          have hEo := HE2'.out.below HBi.out
          obtain ⟨bx, ox, eA2, hSx, hbx, hpi64, x0, x1⟩ := hEo.none_ hp
          have HEo := Lib.hid hEo
          have HP := Lib.hid hp
          subst eA2
          obtain ⟨pl, pt⟩ := p
          obtain ⟨⟨l1, l2⟩, t1, t2⟩ := hpi
          dsimp only at l1 l2 t1 t2 x0 x1
          have hk0 : (0 : Int) ≤ (k : Int) := by omega
          have hk9 : (k : Int) < (ys.length : Int) := by omega
          obtain ⟨w6, hw6⟩ : ∃ w6 : World, w6 = wi.alloc (.cells #[.int .i64 pl, .int .i64 pt] 39) := ⟨_, rfl⟩
          have HW6 := Lib.hid hw6
          have hb6 : Below wi.heap.size wi w6 := by rw [hw6]; exact (Below.refl _ _).alloc (Nat.le_refl _) _
          have HX6 : Hid (Blk' w6 wi.heap.size 39 #[.int .i64 pl, .int .i64 pt]) := Lib.hid (by rw [hw6]; exact Blk'.new _ _ _)
          have HO6 := Lib.hid (HOi.out.below hb6 HOi.out.lt)
          have HB6 := Lib.hid (bthen HBi.out hb6 HBi.out.size)
          have HE6 := Lib.hid (HEo.out.below hb6)
          clear hw6 hb6 hp hEo hpi64
          go_upto_region 16 with (fail)
          rw [← HW6.out]
          have y0 : w6.cell? ⟨wi.heap.size, 0, none⟩ = some (.int .i64 pl) := HX6.out.cell 0
          have y1 : w6.cell? ⟨wi.heap.size, 1, none⟩ = some (.int .i64 pt) := HX6.out.cell 1
          have o0 : w6.cell? ⟨w3.heap.size, 0, none⟩ = some (.int .i64 (m : Int)) := HO6.out.cell 0
          have o1 : w6.cell? ⟨w3.heap.size, 1, none⟩ = some (.int .i64 (N : Int)) := HO6.out.cell 1
          have o5 : w6.cell? ⟨w3.heap.size, 5, none⟩ = some (.slice (some ⟨bx, ox, none⟩) ys.length c2) := HO6.out.cell 5
          have zX : wi.heap.size < w6.heap.size := HX6.out.lt
          have zO : w3.heap.size < w6.heap.size := HO6.out.lt
          clear x0 x1 hbx hSx HW6
          obtain ⟨mn1, hmn1⟩ : ∃ z, (if pt < pl then pt else pl) = z := ⟨_, rfl⟩
          have hlo : ¬ mn1 < 0 := by rw [← hmn1]; split <;> omega
          have hhi : ¬ (N : Int) ≤ pl := by omega
          have hhm : ¬ (m : Int) ≤ pt := by omega
          clear l1 l2 t1 t2
          cases k with
          | zero =>
            go_quiet (fail)
            go_wp2_with fail
            go_roundw
            case rel => exact ⟨1, hkn, by go_num, bthen HB6.out (bdrewN (Below.refl _ _)) HB6.out.size⟩
            case measure => simp [intOf]; omega
          | succ k =>
            obtain ⟨q, hq⟩ := get_some (show k < ys.length by omega)
            obtain ⟨bx', ox', eA2, hSx, hbx, hqi64, x0, x1⟩ := HE6.out.none_ hq
            injection eA2 with eA2
            injection eA2 with e5 e6 _
            subst e5; subst e6
            have hlt : ltNO q ⟨pl, pt⟩ := List.pairwise_iff_getElem.1 HOy.out.sorted k (k + 1) (by omega) hkn (by omega) |> fun h => by
              rw [List.getElem?_eq_getElem (by omega)] at hq
              have hp2 := HP.out
              rw [List.getElem?_eq_getElem hkn] at hp2
              injection hq with hq
              injection hp2 with hp2
              rw [hq, hp2] at h
              exact h
            obtain ⟨ql, qt⟩ := q
            dsimp only at x0 x1
            have hwk : IntKind.i64.wrap (k : Int) = (k : Int) := IntWalk.i64_in _ (by omega)
            have hk00 : (0 : Int) < (k : Int) + 1 := by omega
            have hkx : (k : Int) < (ys.length : Int) := by omega
            have hkz : (0 : Int) ≤ (k : Int) := by omega
            unfold ltNO at hlt
            dsimp only at hlt
            have hll : ¬ pl < ql := by omega
            clear hq hqi64 hSx
            by_cases heq : ql = pl
            · have htt : ¬ pt ≤ qt := by omega
              subst heq
              have e1 : (ql == ql) = true := by simp
              clear hlt
              go_quiet (fail)
              go_wp2_with fail
              go_roundw
              case rel => exact ⟨k + 1 + 1, hkn, by go_num, bthen HB6.out (bdrewN (Below.refl _ _)) HB6.out.size⟩
              case measure => simp [intOf]; omega
            · have e1 : (ql == pl) = false := by simpa using heq
              clear hlt
              go_quiet (fail)
              go_wp2_with fail
              go_roundw
              case rel => exact ⟨k + 1 + 1, hkn, by go_num, bthen HB6.out (bdrewN (Below.refl _ _)) HB6.out.size⟩
              case measure => simp [intOf]; omega
        · go_wp2
          go_ret
          exact ⟨rfl, bthen HB5.out HBi.out HB5.out.size⟩
theorem normalForm_row (l : List Int) (v : Value) (W : World) (h : Vl W (OldS W) l v) :
    Calls Try.prog 3 #[v] W fun e W' => e = .returned (.bool true) ∧ Below W.heap.size W W' := by
  obtain ⟨A, c, rfl, k1, k2, hA⟩ := h.slice
  exact normalForm_any A c l (OldS W) W k1 k2 hA (fun b h => h)
end Go.Proofs.Ytecofoilghdedaa
