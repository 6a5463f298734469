/- Contracts: closed.finish, closed.Star. -/
import Derived.Test.YtnlpeiffbnlncaaDoorQFinish
import Derived.Test.YtnlpeiffbnlncaaDoorQw1
import Derived.Test.YtnlpeiffbnlncaaDoorQp1
namespace Go.Proofs.YtnlpeiffbnlncaaDoor
open Go.RowKit
set_option linter.unusedVariables false

set_option maxRecDepth 100000 in
set_option maxHeartbeats 8000000 in
theorem star_any (g : Gram) (A : Option Addr) (c : Nat) (S : Nat → Prop) (w : World) (hck : checkI g = 0) (hck2 : checkI (starG g) = 0) (hlc : g.rules.length ≤ c) (hc : c ≤ 9223372036854775807) (hA : Els w S g.rules A) (hS : ∀ b, S b → b < w.heap.size) :
    Calls Tryd.prog 35 #[.agg #[.int .i64 g.terms, .int .i64 g.nons, .int .i64 g.start, .slice A g.rules.length c]] w fun e w' => ∃ A' c', e = .returned (.tuple #[.agg #[.int .i64 g.terms, .int .i64 (g.nons + 1), .int .i64 g.nons, .slice A' (starG g).rules.length c'], .int .i64 0]) ∧ (starG g).rules.length ≤ c' ∧ c' ≤ 9223372036854775807 ∧ Els w' (fun b => w.heap.size ≤ b ∧ b < w'.heap.size) (starG g).rules A' ∧ Below w.heap.size w w' := by
  have hv := validG_of hck
  have hv2 := validG_of hck2
  have hn10 : g.nons + 1 ≤ 10 := hv2.n10
  have hb64 : I64 g.terms ∧ I64 g.nons ∧ I64 g.start := by
    have h1 := hv.t1; have h2 := hv.t8; have h3 := hv.n1; have h4 := hv.n10; have h5 := hv.s0; have h6 := hv.s1
    unfold I64; omega
  have hjr : joinR 0 [g] ++ [⟨g.nons, []⟩, ⟨g.nons, [⟨false, g.nons⟩, ⟨false, g.start⟩]⟩] = (starG g).rules := by simp [joinR, starG]
  have hs0 : 0 ≤ g.start ∧ g.start < g.nons := ⟨hv.s0, hv.s1⟩
  have hn1 : 1 ≤ g.nons := hv.n1
  have hrl : g.rules.length ≤ 32 := hv.len
  have HJ := Lib.hid hjr
  obtain ⟨R, hR⟩ : ∃ R, R = (starG g).rules := ⟨_, rfl⟩
  have HRe := Lib.hid hR
  have HCk := Lib.hid hck
  have HC2 := Lib.hid hck2
  have H64 := Lib.hid hb64
  rw [← hR] at HJ ⊢
  have hsn : sumN [g] = g.nons := by simp [sumN]
  have HSn := Lib.hid hsn
  obtain ⟨gg, hgg⟩ : ∃ gg, gg = g := ⟨_, rfl⟩
  have HGG := Lib.hid hgg
  obtain ⟨gt, gn, gs, rs⟩ := g
  dsimp only at hn10 hs0 hn1 hrl HJ HSn hlc hA ⊢
  obtain ⟨w1, hw1⟩ : ∃ w1 : World, w1 = (w.alloc (.cells #[.int .i64 gt, .int .i64 gn, .int .i64 gs, .slice A rs.length c] 25)).alloc (.cells #[.int .i64 0, .int .i64 0, .int .i64 0, .slice none 0 0] 25) := ⟨_, rfl⟩
  have HW1 := Lib.hid hw1
  have hb1 : Below w.heap.size w w1 := by rw [hw1]; exact ((Below.refl _ _).alloc (Nat.le_refl _) _).alloc (by simp) _
  have HG1 : Hid (Blk' w1 w.heap.size 25 #[.int .i64 gt, .int .i64 gn, .int .i64 gs, .slice A rs.length c]) := Lib.hid (by rw [hw1]; exact (Blk'.new w _ _).alloc _)
  have HR1 : Hid (Blk' w1 (w.heap.size + 1) 25 #[.int .i64 0, .int .i64 0, .int .i64 0, .slice none 0 0]) := Lib.hid (by rw [hw1]; exact Blk'.new' _ _ _ (by simp))
  have HB1 := Lib.hid hb1
  have HA1 := Lib.hid (hA.belowB hb1 hS)
  have HS := Lib.hid hS
  have a0 : w1.cell? ⟨w.heap.size, 0, none⟩ = some (.int .i64 gt) := HG1.out.cell 0
  have a1 : w1.cell? ⟨w.heap.size, 1, none⟩ = some (.int .i64 gn) := HG1.out.cell 1
  have a2 : w1.cell? ⟨w.heap.size, 2, none⟩ = some (.int .i64 gs) := HG1.out.cell 2
  have a3 : w1.cell? ⟨w.heap.size, 3, none⟩ = some (.slice A rs.length c) := HG1.out.cell 3
  have zG : w.heap.size < w1.heap.size := HG1.out.lt
  have HE1 := Lib.hid (els_gram1 (g := ⟨gt, gn, gs, rs⟩) 25 HA1.out hlc hc H64.out)
  have hba : Below w1.heap.size w1 (w1.alloc (.cells #[.int .i64 gt, .int .i64 gn, .int .i64 gs, .slice A rs.length c] 25)) := (Below.refl _ _).alloc (Nat.le_refl _) _
  have HBa := Lib.hid hba
  clear hw1 hb1 hA hck hck2 hv hv2 hb64 hjr hR hsn hS hba hgg
  go_enter Tryd.func35, Tryd.ntmps35
  go_upto_region 1 with (fail)
  rw [← HW1.out]
  go_wp2_with fail
  refine (ccheck_any [⟨gt, gn, gs, rs⟩] (some ⟨w1.heap.size, 0, none⟩) 1 (fun b => S b ∨ b = w1.heap.size) _ (by simp) (fun g hg => by simp at hg; subst hg; exact HCk.out) HE1.out (fun b hb => by rcases hb with hb | hb; (have := HS.out b hb; have := HB1.out.size; simp; omega); (subst hb; simp))).mono ?_
  rintro e w2 ⟨rfl, hb2⟩
  have HB12 := Lib.hid (bthen HBa.out hb2 HBa.out.size)
  have HB2 := Lib.hid (bthen HB1.out HB12.out HB1.out.size)
  have HG2 := Lib.hid (HG1.out.below HB12.out HG1.out.lt)
  have HR2 := Lib.hid (HR1.out.below HB12.out HR1.out.lt)
  have HA2 := Lib.hid (HA1.out.belowB HB12.out (fun b hb => by have := HS.out b hb; have := HB1.out.size; omega))
  have b0 : w2.cell? ⟨w.heap.size, 0, none⟩ = some (.int .i64 gt) := HG2.out.cell 0
  have b1 : w2.cell? ⟨w.heap.size, 1, none⟩ = some (.int .i64 gn) := HG2.out.cell 1
  have b2 : w2.cell? ⟨w.heap.size, 2, none⟩ = some (.int .i64 gs) := HG2.out.cell 2
  have b3 : w2.cell? ⟨w.heap.size, 3, none⟩ = some (.slice A rs.length c) := HG2.out.cell 3
  have zG2 : w.heap.size < w2.heap.size := HG2.out.lt
  have HE2 := Lib.hid (els_gram1 (g := ⟨gt, gn, gs, rs⟩) 25 HA2.out hlc hc H64.out)
  have hba2 : Below w2.heap.size w2 (w2.alloc (.cells #[.int .i64 gt, .int .i64 gn, .int .i64 gs, .slice A rs.length c] 25)) := (Below.refl _ _).alloc (Nat.le_refl _) _
  have HBa2 := Lib.hid hba2
  clear a0 a1 a2 a3 hb2 hba2
  go_wp2_with fail
  refine (join_any [⟨gt, gn, gs, rs⟩] 1 ⟨gt, gn, gs, rs⟩ (some ⟨w2.heap.size, 0, none⟩) 1 (fun b => S b ∨ b = w2.heap.size) _ (by simp) rfl (fun g hg => by simp at hg; subst hg; exact HCk.out) (by omega) (by rw [HSn.out]; omega) HE2.out (fun b hb => by rcases hb with hb | hb; (have := HS.out b hb; have := HB2.out.size; simp; omega); (subst hb; simp))).mono ?_
  rintro e w3 ⟨v3, rfl, hown3, hb3⟩
  rw [HSn.out]
  dsimp only
  obtain ⟨A3, c3, rfl, hc31, hc32, _⟩ := hown3.form
  have HB23 := Lib.hid (bthen HBa2.out hb3 HBa2.out.size)
  have HB3 := Lib.hid (bthen HB2.out HB23.out HB2.out.size)
  have HG3 := Lib.hid (HG2.out.below HB23.out HG2.out.lt)
  have HR3 := Lib.hid (HR2.out.below HB23.out HR2.out.lt)
  obtain ⟨J, hJ⟩ : ∃ J, J = joinR 0 [(⟨gt, gn, gs, rs⟩ : Gram)] := ⟨_, rfl⟩
  rw [← hJ] at HJ hown3 hc31 ⊢
  have hJl : J.length ≤ 32 := by rw [hJ]; simp [joinR]; omega
  have HJl := Lib.hid hJl
  have hown3' : Own w3 (fun _ => False) w2.heap.size 57 (.slice A3 J.length c3) J := hown3.base (by simp)
  have HO3 := Lib.hid hown3'
  have HT3 := Lib.hid hown3'.toX
  obtain ⟨w4, hw4⟩ : ∃ w4 : World, w4 = w3.alloc (.cells #[.int .i64 gt, .int .i64 (gn + 1), .int .i64 gn, .slice A3 J.length c3] 25) := ⟨_, rfl⟩
  have HW4 := Lib.hid hw4
  have hb4 : Below w3.heap.size w3 w4 := by rw [hw4]; exact (Below.refl _ _).alloc (Nat.le_refl _) _
  have HB4 := Lib.hid hb4
  have HX4 : Hid (Blk' w4 w3.heap.size 25 #[.int .i64 gt, .int .i64 (gn + 1), .int .i64 gn, .slice A3 J.length c3]) := Lib.hid (by rw [hw4]; exact Blk'.new _ _ _)
  have HT4 := Lib.hid (hown3'.toX.below hb4 (Nat.le_refl _))
  have HR4 := Lib.hid (HR3.out.below hb4 HR3.out.lt)
  have hG4 := HG3.out.below hb4 HG3.out.lt
  have x0 : w4.cell? ⟨w3.heap.size, 0, none⟩ = some (.int .i64 gt) := HX4.out.cell 0
  have x1 : w4.cell? ⟨w3.heap.size, 1, none⟩ = some (.int .i64 (gn + 1)) := HX4.out.cell 1
  have x2 : w4.cell? ⟨w3.heap.size, 2, none⟩ = some (.int .i64 gn) := HX4.out.cell 2
  have x3 : w4.cell? ⟨w3.heap.size, 3, none⟩ = some (.slice A3 J.length c3) := HX4.out.cell 3
  have g2 : w4.cell? ⟨w.heap.size, 2, none⟩ = some (.int .i64 gs) := hG4.cell 2
  have zX : w3.heap.size < w4.heap.size := HX4.out.lt
  have zG4 : w.heap.size < w4.heap.size := hG4.lt
  have z23 : w2.heap.size ≤ w3.heap.size := HB23.out.size
  have z2 : w.heap.size + 1 < w2.heap.size := HR2.out.lt
  clear b0 b1 b2 b3 hb3 hw4 hb4 hG4 hown3 hown3' hJ hJl
  go_upto_region 7 with (fail)
  rw [← HW4.out]
  go_wp2_with fail
  refine wp_region_noPanic ?_
  refine wp_region_held_drew (S := (fun w' => w'.cell? ⟨w3.heap.size, 2, none⟩ = some (.int .i64 gn) ∧ w'.cell? ⟨w.heap.size, 2, none⟩ = some (.int .i64 gs))) (by kernel_rfl) ?hg (fun hHeld => ?bg)
  case hg => ((try dsimp only); go_keep)
  refine take_run (i := 0) (v := ?vg0) rfl (by kernel_rfl) (by kernel_rfl) (by kernel_rfl) (fun _ _ _ h => h) (by rfl) ?yg0 (by assumption) ?rg0
  case yg0 => (intro w hSw; (try dsimp only at hSw); go_simp; try with_reducible rfl)
  try simp only [Act.put, List.setIfInBounds_toArray, List.set_cons_zero, List.set_cons_succ]
  refine take_run (i := 2) (v := ?vg2) rfl (by kernel_rfl) (by kernel_rfl) (by kernel_rfl) (fun _ _ _ h => h) (by rfl) ?yg2 (by assumption) ?rg2
  case yg2 => (intro w hSw; (try dsimp only at hSw); go_simp; try with_reducible rfl)
  try simp only [Act.put, List.setIfInBounds_toArray, List.set_cons_zero, List.set_cons_succ]
  refine take_run (i := 3) (v := ?vg3) rfl (by kernel_rfl) (by kernel_rfl) (by kernel_rfl) (fun _ _ _ h => h) (by rfl) ?yg3 (by assumption) ?rg3
  case yg3 => (intro w hSw; (try dsimp only at hSw); go_simp; try with_reducible rfl)
  try simp only [Act.put, List.setIfInBounds_toArray, List.set_cons_zero, List.set_cons_succ]
  refine take_run (i := 4) (v := ?vg4) rfl (by kernel_rfl) (by kernel_rfl) (by kernel_rfl) (fun _ _ _ h => h) (by rfl) ?yg4 (by assumption) ?rg4
  case yg4 => (intro w hSw; (try dsimp only at hSw); go_simp; try with_reducible rfl)
  try simp only [Act.put, List.setIfInBounds_toArray, List.set_cons_zero, List.set_cons_succ]
  refine take_run (i := 5) (v := ?vg5) rfl (by kernel_rfl) (by kernel_rfl) (by kernel_rfl) (fun _ _ _ h => h) (by rfl) ?yg5 (by assumption) ?rg5
  case yg5 => (intro w hSw; (try dsimp only at hSw); go_simp; try with_reducible rfl)
  try simp only [Act.put, List.setIfInBounds_toArray, List.set_cons_zero, List.set_cons_succ]
  refine take_run (i := 6) (v := ?vg6) rfl (by kernel_rfl) (by kernel_rfl) (by kernel_rfl) (fun _ _ _ h => h) (by rfl) ?yg6 (by assumption) ?rg6
  case yg6 => (intro w hSw; (try dsimp only at hSw); go_simp; try with_reducible rfl)
  try simp only [Act.put, List.setIfInBounds_toArray, List.set_cons_zero, List.set_cons_succ]
  refine take_run (i := 7) (v := ?vg7) rfl (by kernel_rfl) (by kernel_rfl) (by kernel_rfl) (fun _ _ _ h => h) (by rfl) ?yg7 (by assumption) ?rg7
  case yg7 => (intro w hSw; (try dsimp only at hSw); go_simp; try with_reducible rfl)
  try simp only [Act.put, List.setIfInBounds_toArray, List.set_cons_zero, List.set_cons_succ]
  refine take_run (i := 8) (v := ?vg8) rfl (by kernel_rfl) (by kernel_rfl) (by kernel_rfl) (fun _ _ _ h => h) (by rfl) ?yg8 (by assumption) ?rg8
  case yg8 => (intro w hSw; (try dsimp only at hSw); go_simp; try with_reducible rfl)
  try simp only [Act.put, List.setIfInBounds_toArray, List.set_cons_zero, List.set_cons_succ]
  refine take_run (i := 10) (v := ?vg10) rfl (by kernel_rfl) (by kernel_rfl) (by kernel_rfl) (fun _ _ _ h => h) (by rfl) ?yg10 (by assumption) ?rg10
  case yg10 => (intro w hSw; (try dsimp only at hSw); go_simp; try with_reducible rfl)
  try simp only [Act.put, List.setIfInBounds_toArray, List.set_cons_zero, List.set_cons_succ]
  refine take_run (i := 11) (v := ?vg11) rfl (by kernel_rfl) (by kernel_rfl) (by kernel_rfl) (fun _ _ _ h => h) (by rfl) ?yg11 (by assumption) ?rg11
  case yg11 => (intro w hSw; (try dsimp only at hSw); go_simp; try with_reducible rfl)
  try simp only [Act.put, List.setIfInBounds_toArray, List.set_cons_zero, List.set_cons_succ]
  refine take_two (i := 1) (j := 9) rfl rfl (by kernel_rfl) (by rfl) (by rfl) (fun Kq hK => ?oneg1) (fun Kq hK => ?twog1)
  case oneg1 =>
    go_simp
    refine hK.out _ _ ?hp1 (fun hHeld => ?rp1)
    case hp1 => ((try dsimp only); go_keep)
    clear hK Kq
    try simp only [Act.put, List.setIfInBounds_toArray, List.set_cons_zero, List.set_cons_succ]
    refine take_call (i := 9) rfl (by kernel_rfl) (by rfl) (fun Kq hK => ?_)
    go_simp
    go_at_call 69
    refine (n_any gn _).mono ?_
    rintro e p5 ⟨rfl, hb_p5⟩
    have HB_p5 : Hid (Below w4.heap.size w4 p5) := Lib.hid (bundrew hb_p5)
    have n0_p5 := (HB_p5.out.cell (p := ⟨w3.heap.size, 2, none⟩) zX).trans x2
    have n1_p5 := (HB_p5.out.cell (p := ⟨w.heap.size, 2, none⟩) zG4).trans g2
    have n3_p5 := (HB_p5.out.cell (p := ⟨w3.heap.size, 3, none⟩) zX).trans x3
    have zz_p5 : w4.heap.size ≤ p5.heap.size := HB_p5.out.size
    clear hb_p5
    refine hK.out _ _ ?hp9 (fun hHeld => ?rp9)
    case hp9 => ((try dsimp only); go_keep)
    clear hK Kq
    try simp only [Act.put, List.setIfInBounds_toArray, List.set_cons_zero, List.set_cons_succ]
    refine take_call (i := 12) rfl (by kernel_rfl) (by rfl) (fun Kq hK => ?_)
    go_simp
    go_at_call 69
    refine (n_any gs _).mono ?_
    rintro e p6 ⟨rfl, hb_p6⟩
    have HB_p6 : Hid (Below w4.heap.size w4 p6) := Lib.hid (bthen HB_p5.out hb_p6 HB_p5.out.size)
    have n0_p6 := (HB_p6.out.cell (p := ⟨w3.heap.size, 2, none⟩) zX).trans x2
    have n1_p6 := (HB_p6.out.cell (p := ⟨w.heap.size, 2, none⟩) zG4).trans g2
    have n3_p6 := (HB_p6.out.cell (p := ⟨w3.heap.size, 3, none⟩) zX).trans x3
    have zz_p6 : w4.heap.size ≤ p6.heap.size := HB_p6.out.size
    clear hb_p6
    refine hK.out _ _ ?hp12 (fun hHeld => ?rp12)
    case hp12 => ((try dsimp only); go_keep)
    clear hK Kq
    try simp only [Act.put, List.setIfInBounds_toArray, List.set_cons_zero, List.set_cons_succ]
    have zq1 : w3.heap.size < p6.heap.size := by omega
    have zq2 : w3.heap.size < p6.heap.size + 1 := by omega
    have zq3 : w3.heap.size < p6.heap.size + 1 + 1 := by omega
    have HLs : Hid (∀ wx, wx = p6.alloc (.cells #[.bool false, .int .i64 gn, .bool false, .int .i64 gs] 69) → Els wx (fun b => b = p6.heap.size) [(⟨false, gn⟩ : Sym), ⟨false, gs⟩] (some ⟨p6.heap.size, 0, none⟩)) := Lib.hid (fun wx h => by subst h; exact els_sym2 (s1 := ⟨false, gn⟩) (s2 := ⟨false, gs⟩) _ H64.out.2.1 H64.out.2.2)
    obtain ⟨w8, hw8⟩ : ∃ w8 : World, w8 = (p6.alloc (.cells #[.bool false, .int .i64 gn, .bool false, .int .i64 gs] 69)).alloc (.cells #[.int .i64 gn, .slice none 0 0, .int .i64 gn, .slice (some ⟨p6.heap.size, 0, none⟩) 2 2] 57) := ⟨_, rfl⟩
    have hb8 : Below w4.heap.size w4 w8 := by rw [hw8]; exact (HB_p6.out.alloc HB_p6.out.size _).alloc (by have := HB_p6.out.size; simp; omega) _
    have HB8 := Lib.hid hb8
    have HL8 : Hid (Els w8 (fun b => b = p6.heap.size ∨ b = p6.heap.size + 1) [(⟨gn, []⟩ : Rule), ⟨gn, [⟨false, gn⟩, ⟨false, gs⟩]⟩] (some ⟨p6.heap.size + 1, 0, none⟩)) := Lib.hid (by
      have h := els_rule2 (w := p6.alloc (.cells #[.bool false, .int .i64 gn, .bool false, .int .i64 gs] 69)) (S := fun b => b = p6.heap.size) (q1 := ⟨gn, []⟩) (q2 := ⟨gn, [⟨false, gn⟩, ⟨false, gs⟩]⟩) (A1 := none) (c1 := 0) (c2 := 2) 57 (fun h => absurd rfl h) (Nat.le_refl _) (by omega) (HLs.out _ rfl) (Nat.le_refl _) (by omega) H64.out.2.1 H64.out.2.1
      rw [hw8]
      have e : (p6.alloc (.cells #[.bool false, .int .i64 gn, .bool false, .int .i64 gs] 69)).heap.size = p6.heap.size + 1 := by simp
      rw [e] at h
      exact h)
    have HO8 : Hid (OwnX w8 (fun b => OwnT (fun _ => False) w2.heap.size (.slice A3 J.length c3) w3 b ∨ b = p6.heap.size ∨ b = p6.heap.size + 1) w2.heap.size 57 (.slice A3 J.length c3) J) := Lib.hid ((HT4.out.below hb8 (Nat.le_refl _)).mono (fun b hb => .inl hb) (fun k hk hT => by
      have h1 := HO3.out.block k hk
      have h9 := zz_p6
      have h4 := HB4.out.size
      rcases hT with hT | hT | hT
      · exact hT.2.1 hk
      · omega
      · omega) (fun b hb => by
      have h9 := zz_p6
      have h4 := HB4.out.size
      have h7 : w8.heap.size = p6.heap.size + 1 + 1 := by rw [hw8]; simp
      rcases hb with hb | hb | hb
      · have := hb.2.2; omega
      · omega
      · omega))
    have hX8 := HX4.out.below hb8 HX4.out.lt
    have HX8 := Lib.hid hX8
    have HZ8 : Hid (w8.heap.size = p6.heap.size + 1 + 1) := Lib.hid (by rw [hw8]; simp)
    have HW8 := Lib.hid hw8
    clear hw8 hb8 hX8 HLs
    refine take_call (i := 13) rfl (by kernel_rfl) (by rfl) (fun Kq hK => ?_)
    go_simp
    refine hK.out _ _ ?hp13 (fun hHeld => ?rp13)
    case hp13 => ((try dsimp only); go_keep)
    clear hK Kq
    try simp only [Act.put, List.setIfInBounds_toArray, List.set_cons_zero, List.set_cons_succ]
    refine take_run (i := 14) (v := ?vp14) rfl (by kernel_rfl) (by kernel_rfl) (by kernel_rfl) (fun _ _ _ h => h) (by rfl) ?yp14 (by assumption) ?rp14
    case yp14 => (intro w hSw; (try dsimp only at hSw); go_simp; try with_reducible rfl)
    try simp only [Act.put, List.setIfInBounds_toArray, List.set_cons_zero, List.set_cons_succ]
    refine take_call (i := 15) rfl (by kernel_rfl) (by rfl) (fun Kq hK => ?_)
    go_simp
    refine hK.out _ _ ?hp15 (fun hHeld => ?rp15)
    case hp15 => ((try dsimp only); go_keep)
    clear hK Kq
    try simp only [Act.put, List.setIfInBounds_toArray, List.set_cons_zero, List.set_cons_succ]
    refine take_call (i := 16) rfl (by kernel_rfl) (by rfl) (fun Kq hK => ?_)
    rw [← HW8.out]
    refine wp_ownXMany _ _ elemRule rfl rfl HO8.out [(⟨gn, []⟩ : Rule), ⟨gn, [⟨false, gn⟩, ⟨false, gs⟩]⟩] rfl rfl (by simp) (HL8.out.keep (fun _ _ _ => rfl) (fun b hb => .inr hb)) (by have := HJl.out; simp; omega) (by have := HJl.out; simp; omega) (by have := HB4.out.size; have := HB8.out.size; omega) ?_
    intro v9 w9 hown9 hg9 hat9
    rw [HJ.out] at hown9
    obtain ⟨A9, c9, ev9, hc91, hc92, _⟩ := hown9.form
    subst ev9
    have hne : ∀ b, (b < w2.heap.size ∨ b = w3.heap.size) → some b ≠ (Value.slice A3 J.length c3).ownBlock := fun b hb e => by have h1 := HO3.out.block b e.symm; omega
    have hX9 := HX8.out.grown hg9 (hne _ (.inr rfl))
    have H9 := Lib.hid (And.intro hown9 (And.intro hat9 hX9))
    have hk9 : Kept (fun b => (Value.slice A3 J.length c3).ownBlock = some b) w4 w9 := (Kept.of_below _ HB8.out).grown hg9 (fun k hk => .inl hk)
    have HK9 := Lib.hid hk9
    have m0 := (hk9.cell (p := ⟨w3.heap.size, 2, none⟩) zX (fun e => hne _ (.inr rfl) e.symm)).trans x2
    have m1 := (hk9.cell (p := ⟨w.heap.size, 2, none⟩) zG4 (fun e => hne _ (.inl (by omega)) e.symm)).trans g2
    have m3 : w9.cell? ⟨w3.heap.size, 3, none⟩ = some (.slice A3 J.length c3) := hX9.cell 3
    have f3 := hX9.frozen 3
    have zX9 := hX9.lt
    have l0 : (w9.setCell ⟨w3.heap.size, 3, none⟩ (.slice A9 R.length c9)).cell? ⟨w3.heap.size, 2, none⟩ = some (.int .i64 gn) := (hX9.set_ 3 _).cell 2
    have l1 : (w9.setCell ⟨w3.heap.size, 3, none⟩ (.slice A9 R.length c9)).cell? ⟨w.heap.size, 2, none⟩ = some (.int .i64 gs) := (((Kept.refl (fun b => b = w3.heap.size) w9).setCell (p := ⟨w3.heap.size, 3, none⟩) (.inl rfl) _).cell (p := ⟨w.heap.size, 2, none⟩) (Nat.lt_of_lt_of_le zG4 hk9.size) (by show ¬ w.heap.size = w3.heap.size; omega)).trans m1
    have HLL := Lib.hid (And.intro l0 l1)
    have HC9 := Lib.hid (And.intro hc91 hc92)
    clear hown9 hg9 hat9 hX9 hk9 hne l0 l1
    refine hK.out _ _ ?hp16 (fun hHeld => ?rp16)
    case hp16 => ((try dsimp only); go_keep)
    clear hK Kq
    try simp only [Act.put, List.setIfInBounds_toArray, List.set_cons_zero, List.set_cons_succ]
    refine take_run (i := 17) (v := ?vp17) rfl (by kernel_rfl) (by kernel_rfl) (by kernel_rfl) (fun _ _ _ h => h) (by rfl) ?yp17 (by assumption) ?rp17
    case yp17 => (intro w hSw; (try dsimp only at hSw); go_simp; try with_reducible rfl)
    try simp only [Act.put, List.setIfInBounds_toArray, List.set_cons_zero, List.set_cons_succ]
    refine take_call (i := 18) rfl (by kernel_rfl) (by rfl) (fun Kq hK => ?_)
    go_simp
    refine hK.out _ _ ?hp18 (fun hHeld => ?rp18)
    case hp18 => exact HLL.out
    clear hK Kq
    try simp only [Act.put, List.setIfInBounds_toArray, List.set_cons_zero, List.set_cons_succ]
    refine wpAnyH_done (by kernel_rfl) ?_ _
    refine NoPanic.normal ?_
    obtain ⟨wE, hwE⟩ : ∃ wE : World, wE = w9.setCell ⟨w3.heap.size, 3, none⟩ (.slice A9 R.length c9) := ⟨_, rfl⟩
    rw [← hwE]
    have hXE : Blk' wE w3.heap.size 25 #[.int .i64 gt, .int .i64 (gn + 1), .int .i64 gn, .slice A9 R.length c9] := by rw [hwE]; exact H9.out.2.2.set_ 3 _
    have hkE : Kept (fun b => (Value.slice A3 J.length c3).ownBlock = some b ∨ b = w3.heap.size) w4 wE := by rw [hwE]; exact (HK9.out.mono (fun b _ h => .inl h)).setCell (p := ⟨w3.heap.size, 3, none⟩) (.inl (.inr rfl)) _
    have HRE := Lib.hid (HR4.out.kept hkE (fun h => by rcases h with h | h; (have := (HO3.out.block _ h).1; omega); omega))
    have HBE : Hid (Below w.heap.size w wE) := Lib.hid ((HB3.out.trans (HB4.out.mono (by have := HB3.out.size; omega))).trans (hkE.to_below (B := w.heap.size) (fun b hb => by rcases hb with h | h; (have := (HO3.out.block _ h).1; omega); omega) (by have := HB3.out.size; have := HB4.out.size; omega)))
    have HOE : Hid (Own wE (fun _ => False) w2.heap.size 57 (.slice A9 R.length c9) R) := Lib.hid (by
      have h4 := HB4.out.size
      have h9 := zz_p6
      have h8 := HB8.out.size
      have h := H9.out.1.setCell (p := ⟨w3.heap.size, 3, none⟩) (fun e => by
        rcases H9.out.2.1 with q | q
        · rw [q] at e; have h5 := (HO3.out.block _ e).2; dsimp only at h5; omega
        · rw [q] at e; injection e with e; dsimp only at e; omega) (fun hT => by
        rcases hT with hT | hT | hT
        · have := hT.2.2; dsimp only at this; omega
        · dsimp only at hT; omega
        · dsimp only at hT; omega) (.slice A9 R.length c9)
      rw [← hwE] at h
      exact h.own (fun b hb => .inr (by rcases hb with hb | hb | hb; (exact hb.1.elim (fun h => h.elim) id); omega; omega)))
    have e0 : wE.cell? ⟨w3.heap.size, 0, none⟩ = some (.int .i64 gt) := hXE.cell 0
    have e1 : wE.cell? ⟨w3.heap.size, 1, none⟩ = some (.int .i64 (gn + 1)) := hXE.cell 1
    have e2 : wE.cell? ⟨w3.heap.size, 2, none⟩ = some (.int .i64 gn) := hXE.cell 2
    have e3 : wE.cell? ⟨w3.heap.size, 3, none⟩ = some (.slice A9 R.length c9) := hXE.cell 3
    have zXE : w3.heap.size < wE.heap.size := hXE.lt
    clear hwE hXE hkE
    go_wp2_with fail
    refine (finish_any ⟨gt, gn + 1, gn, R⟩ A9 c9 _ wE (by have h := HC2.out; rw [show starG ⟨gt, gn, gs, rs⟩ = ⟨gt, gn + 1, gn, R⟩ by rw [HRe.out]; rfl] at h; exact h) HC9.out.1 HC9.out.2 HOE.out.vl.els.2.2.2 (fun b hb => hb.2)).mono ?_
    rintro e w10 ⟨rfl, hb10⟩
    have HB10 := Lib.hid (bthen HBE.out hb10 HBE.out.size)
    have HR10 := Lib.hid (HRE.out.below hb10 HRE.out.lt)
    have HO10 := Lib.hid (HOE.out.below hb10 (Nat.le_refl _))
    have r0 := HR10.out.frozen 0
    have r1 := HR10.out.frozen 1
    have r2 := HR10.out.frozen 2
    have r3 := HR10.out.frozen 3
    have q0 : w10.cell? ⟨w.heap.size + 1, 0, none⟩ = some (.int .i64 0) := HR10.out.cell 0
    have q1 : w10.cell? ⟨w.heap.size + 1, 1, none⟩ = some (.int .i64 0) := HR10.out.cell 1
    have q2 : w10.cell? ⟨w.heap.size + 1, 2, none⟩ = some (.int .i64 0) := HR10.out.cell 2
    have q3 : w10.cell? ⟨w.heap.size + 1, 3, none⟩ = some (.slice none 0 0) := HR10.out.cell 3
    have zR : w.heap.size + 1 < w10.heap.size := HR10.out.lt
    clear e0 e1 e2 e3 hb10
    go_wp2_with fail
    generalize hwF : World.setCell _ _ _ = wF
    obtain ⟨hRF, kF⟩ := set4 HR10.out (.int .i64 gt) (.int .i64 (gn + 1)) (.int .i64 gn) (.slice A9 R.length c9)
    rw [hwF] at hRF kF
    have u0 : wF.cell? ⟨w.heap.size + 1, 0, none⟩ = some (.int .i64 gt) := hRF.cell 0
    have u1 : wF.cell? ⟨w.heap.size + 1, 1, none⟩ = some (.int .i64 (gn + 1)) := hRF.cell 1
    have u2 : wF.cell? ⟨w.heap.size + 1, 2, none⟩ = some (.int .i64 gn) := hRF.cell 2
    have u3 : wF.cell? ⟨w.heap.size + 1, 3, none⟩ = some (.slice A9 R.length c9) := hRF.cell 3
    clear hwF
    refine bodyPost_ret (v := .tuple #[.agg #[.int .i64 gt, .int .i64 (gn + 1), .int .i64 gn, .slice A9 R.length c9], .int .i64 0]) (by simp [results, Tryd.results35, go_sem, u0, u1, u2, u3]) rfl ⟨A9, c9, rfl, HC9.out.1, HC9.out.2, ?_, HB10.out.trans (kF.to_below (B := w.heap.size) (fun b (hb : b = w.heap.size + 1) => by omega) HB10.out.size)⟩
    exact ((HO10.out.kept kF (fun b (hb : b = w.heap.size + 1) h => h.elim id (fun h => by omega))).base (base' := w.heap.size) (by omega)).vl.els.2.2.2.keep (fun _ _ _ => rfl) (fun b hb => ⟨by rcases hb.1 with h | h; exact h.elim; exact h, hb.2⟩)
  case twog1 =>
    go_simp
    go_at_call 69
    refine (n_any gn _).mono ?_
    rintro e q5 ⟨rfl, hb_q5⟩
    have HB_q5 : Hid (Below w4.heap.size w4 q5) := Lib.hid (bundrew hb_q5)
    have n0_q5 := (HB_q5.out.cell (p := ⟨w3.heap.size, 2, none⟩) zX).trans x2
    have n1_q5 := (HB_q5.out.cell (p := ⟨w.heap.size, 2, none⟩) zG4).trans g2
    have n3_q5 := (HB_q5.out.cell (p := ⟨w3.heap.size, 3, none⟩) zX).trans x3
    have zz_q5 : w4.heap.size ≤ q5.heap.size := HB_q5.out.size
    clear hb_q5
    refine hK.out _ _ ?hq9 (fun hHeld => ?rq9)
    case hq9 => ((try dsimp only); go_keep)
    clear hK Kq
    try simp only [Act.put, List.setIfInBounds_toArray, List.set_cons_zero, List.set_cons_succ]
    refine take_two (i := 1) (j := 12) rfl rfl (by kernel_rfl) (by rfl) (by rfl) (fun Kq hK => ?oneq1) (fun Kq hK => ?twoq1)
    case oneq1 =>
      go_simp
      refine hK.out _ _ ?hq1 (fun hHeld => ?rq1)
      case hq1 => ((try dsimp only); go_keep)
      clear hK Kq
      try simp only [Act.put, List.setIfInBounds_toArray, List.set_cons_zero, List.set_cons_succ]
      refine take_call (i := 12) rfl (by kernel_rfl) (by rfl) (fun Kq hK => ?_)
      go_simp
      go_at_call 69
      refine (n_any gs _).mono ?_
      rintro e q6 ⟨rfl, hb_q6⟩
      have HB_q6 : Hid (Below w4.heap.size w4 q6) := Lib.hid (bthen HB_q5.out hb_q6 HB_q5.out.size)
      have n0_q6 := (HB_q6.out.cell (p := ⟨w3.heap.size, 2, none⟩) zX).trans x2
      have n1_q6 := (HB_q6.out.cell (p := ⟨w.heap.size, 2, none⟩) zG4).trans g2
      have n3_q6 := (HB_q6.out.cell (p := ⟨w3.heap.size, 3, none⟩) zX).trans x3
      have zz_q6 : w4.heap.size ≤ q6.heap.size := HB_q6.out.size
      clear hb_q6
      refine hK.out _ _ ?hq12 (fun hHeld => ?rq12)
      case hq12 => ((try dsimp only); go_keep)
      clear hK Kq
      try simp only [Act.put, List.setIfInBounds_toArray, List.set_cons_zero, List.set_cons_succ]
      have zq1 : w3.heap.size < q6.heap.size := by omega
      have zq2 : w3.heap.size < q6.heap.size + 1 := by omega
      have zq3 : w3.heap.size < q6.heap.size + 1 + 1 := by omega
      have HLs : Hid (∀ wx, wx = q6.alloc (.cells #[.bool false, .int .i64 gn, .bool false, .int .i64 gs] 69) → Els wx (fun b => b = q6.heap.size) [(⟨false, gn⟩ : Sym), ⟨false, gs⟩] (some ⟨q6.heap.size, 0, none⟩)) := Lib.hid (fun wx h => by subst h; exact els_sym2 (s1 := ⟨false, gn⟩) (s2 := ⟨false, gs⟩) _ H64.out.2.1 H64.out.2.2)
      obtain ⟨w8, hw8⟩ : ∃ w8 : World, w8 = (q6.alloc (.cells #[.bool false, .int .i64 gn, .bool false, .int .i64 gs] 69)).alloc (.cells #[.int .i64 gn, .slice none 0 0, .int .i64 gn, .slice (some ⟨q6.heap.size, 0, none⟩) 2 2] 57) := ⟨_, rfl⟩
      have hb8 : Below w4.heap.size w4 w8 := by rw [hw8]; exact (HB_q6.out.alloc HB_q6.out.size _).alloc (by have := HB_q6.out.size; simp; omega) _
      have HB8 := Lib.hid hb8
      have HL8 : Hid (Els w8 (fun b => b = q6.heap.size ∨ b = q6.heap.size + 1) [(⟨gn, []⟩ : Rule), ⟨gn, [⟨false, gn⟩, ⟨false, gs⟩]⟩] (some ⟨q6.heap.size + 1, 0, none⟩)) := Lib.hid (by
        have h := els_rule2 (w := q6.alloc (.cells #[.bool false, .int .i64 gn, .bool false, .int .i64 gs] 69)) (S := fun b => b = q6.heap.size) (q1 := ⟨gn, []⟩) (q2 := ⟨gn, [⟨false, gn⟩, ⟨false, gs⟩]⟩) (A1 := none) (c1 := 0) (c2 := 2) 57 (fun h => absurd rfl h) (Nat.le_refl _) (by omega) (HLs.out _ rfl) (Nat.le_refl _) (by omega) H64.out.2.1 H64.out.2.1
        rw [hw8]
        have e : (q6.alloc (.cells #[.bool false, .int .i64 gn, .bool false, .int .i64 gs] 69)).heap.size = q6.heap.size + 1 := by simp
        rw [e] at h
        exact h)
      have HO8 : Hid (OwnX w8 (fun b => OwnT (fun _ => False) w2.heap.size (.slice A3 J.length c3) w3 b ∨ b = q6.heap.size ∨ b = q6.heap.size + 1) w2.heap.size 57 (.slice A3 J.length c3) J) := Lib.hid ((HT4.out.below hb8 (Nat.le_refl _)).mono (fun b hb => .inl hb) (fun k hk hT => by
        have h1 := HO3.out.block k hk
        have h9 := zz_q6
        have h4 := HB4.out.size
        rcases hT with hT | hT | hT
        · exact hT.2.1 hk
        · omega
        · omega) (fun b hb => by
        have h9 := zz_q6
        have h4 := HB4.out.size
        have h7 : w8.heap.size = q6.heap.size + 1 + 1 := by rw [hw8]; simp
        rcases hb with hb | hb | hb
        · have := hb.2.2; omega
        · omega
        · omega))
      have hX8 := HX4.out.below hb8 HX4.out.lt
      have HX8 := Lib.hid hX8
      have HZ8 : Hid (w8.heap.size = q6.heap.size + 1 + 1) := Lib.hid (by rw [hw8]; simp)
      have HW8 := Lib.hid hw8
      clear hw8 hb8 hX8 HLs
      refine take_call (i := 13) rfl (by kernel_rfl) (by rfl) (fun Kq hK => ?_)
      go_simp
      refine hK.out _ _ ?hq13 (fun hHeld => ?rq13)
      case hq13 => ((try dsimp only); go_keep)
      clear hK Kq
      try simp only [Act.put, List.setIfInBounds_toArray, List.set_cons_zero, List.set_cons_succ]
      refine take_run (i := 14) (v := ?vq14) rfl (by kernel_rfl) (by kernel_rfl) (by kernel_rfl) (fun _ _ _ h => h) (by rfl) ?yq14 (by assumption) ?rq14
      case yq14 => (intro w hSw; (try dsimp only at hSw); go_simp; try with_reducible rfl)
      try simp only [Act.put, List.setIfInBounds_toArray, List.set_cons_zero, List.set_cons_succ]
      refine take_call (i := 15) rfl (by kernel_rfl) (by rfl) (fun Kq hK => ?_)
      go_simp
      refine hK.out _ _ ?hq15 (fun hHeld => ?rq15)
      case hq15 => ((try dsimp only); go_keep)
      clear hK Kq
      try simp only [Act.put, List.setIfInBounds_toArray, List.set_cons_zero, List.set_cons_succ]
      refine take_call (i := 16) rfl (by kernel_rfl) (by rfl) (fun Kq hK => ?_)
      rw [← HW8.out]
      refine wp_ownXMany _ _ elemRule rfl rfl HO8.out [(⟨gn, []⟩ : Rule), ⟨gn, [⟨false, gn⟩, ⟨false, gs⟩]⟩] rfl rfl (by simp) (HL8.out.keep (fun _ _ _ => rfl) (fun b hb => .inr hb)) (by have := HJl.out; simp; omega) (by have := HJl.out; simp; omega) (by have := HB4.out.size; have := HB8.out.size; omega) ?_
      intro v9 w9 hown9 hg9 hat9
      rw [HJ.out] at hown9
      obtain ⟨A9, c9, ev9, hc91, hc92, _⟩ := hown9.form
      subst ev9
      have hne : ∀ b, (b < w2.heap.size ∨ b = w3.heap.size) → some b ≠ (Value.slice A3 J.length c3).ownBlock := fun b hb e => by have h1 := HO3.out.block b e.symm; omega
      have hX9 := HX8.out.grown hg9 (hne _ (.inr rfl))
      have H9 := Lib.hid (And.intro hown9 (And.intro hat9 hX9))
      have hk9 : Kept (fun b => (Value.slice A3 J.length c3).ownBlock = some b) w4 w9 := (Kept.of_below _ HB8.out).grown hg9 (fun k hk => .inl hk)
      have HK9 := Lib.hid hk9
      have m0 := (hk9.cell (p := ⟨w3.heap.size, 2, none⟩) zX (fun e => hne _ (.inr rfl) e.symm)).trans x2
      have m1 := (hk9.cell (p := ⟨w.heap.size, 2, none⟩) zG4 (fun e => hne _ (.inl (by omega)) e.symm)).trans g2
      have m3 : w9.cell? ⟨w3.heap.size, 3, none⟩ = some (.slice A3 J.length c3) := hX9.cell 3
      have f3 := hX9.frozen 3
      have zX9 := hX9.lt
      have l0 : (w9.setCell ⟨w3.heap.size, 3, none⟩ (.slice A9 R.length c9)).cell? ⟨w3.heap.size, 2, none⟩ = some (.int .i64 gn) := (hX9.set_ 3 _).cell 2
      have l1 : (w9.setCell ⟨w3.heap.size, 3, none⟩ (.slice A9 R.length c9)).cell? ⟨w.heap.size, 2, none⟩ = some (.int .i64 gs) := (((Kept.refl (fun b => b = w3.heap.size) w9).setCell (p := ⟨w3.heap.size, 3, none⟩) (.inl rfl) _).cell (p := ⟨w.heap.size, 2, none⟩) (Nat.lt_of_lt_of_le zG4 hk9.size) (by show ¬ w.heap.size = w3.heap.size; omega)).trans m1
      have HLL := Lib.hid (And.intro l0 l1)
      have HC9 := Lib.hid (And.intro hc91 hc92)
      clear hown9 hg9 hat9 hX9 hk9 hne l0 l1
      refine hK.out _ _ ?hq16 (fun hHeld => ?rq16)
      case hq16 => ((try dsimp only); go_keep)
      clear hK Kq
      try simp only [Act.put, List.setIfInBounds_toArray, List.set_cons_zero, List.set_cons_succ]
      refine take_run (i := 17) (v := ?vq17) rfl (by kernel_rfl) (by kernel_rfl) (by kernel_rfl) (fun _ _ _ h => h) (by rfl) ?yq17 (by assumption) ?rq17
      case yq17 => (intro w hSw; (try dsimp only at hSw); go_simp; try with_reducible rfl)
      try simp only [Act.put, List.setIfInBounds_toArray, List.set_cons_zero, List.set_cons_succ]
      refine take_call (i := 18) rfl (by kernel_rfl) (by rfl) (fun Kq hK => ?_)
      go_simp
      refine hK.out _ _ ?hq18 (fun hHeld => ?rq18)
      case hq18 => exact HLL.out
      clear hK Kq
      try simp only [Act.put, List.setIfInBounds_toArray, List.set_cons_zero, List.set_cons_succ]
      refine wpAnyH_done (by kernel_rfl) ?_ _
      refine NoPanic.normal ?_
      obtain ⟨wE, hwE⟩ : ∃ wE : World, wE = w9.setCell ⟨w3.heap.size, 3, none⟩ (.slice A9 R.length c9) := ⟨_, rfl⟩
      rw [← hwE]
      have hXE : Blk' wE w3.heap.size 25 #[.int .i64 gt, .int .i64 (gn + 1), .int .i64 gn, .slice A9 R.length c9] := by rw [hwE]; exact H9.out.2.2.set_ 3 _
      have hkE : Kept (fun b => (Value.slice A3 J.length c3).ownBlock = some b ∨ b = w3.heap.size) w4 wE := by rw [hwE]; exact (HK9.out.mono (fun b _ h => .inl h)).setCell (p := ⟨w3.heap.size, 3, none⟩) (.inl (.inr rfl)) _
      have HRE := Lib.hid (HR4.out.kept hkE (fun h => by rcases h with h | h; (have := (HO3.out.block _ h).1; omega); omega))
      have HBE : Hid (Below w.heap.size w wE) := Lib.hid ((HB3.out.trans (HB4.out.mono (by have := HB3.out.size; omega))).trans (hkE.to_below (B := w.heap.size) (fun b hb => by rcases hb with h | h; (have := (HO3.out.block _ h).1; omega); omega) (by have := HB3.out.size; have := HB4.out.size; omega)))
      have HOE : Hid (Own wE (fun _ => False) w2.heap.size 57 (.slice A9 R.length c9) R) := Lib.hid (by
        have h4 := HB4.out.size
        have h9 := zz_q6
        have h8 := HB8.out.size
        have h := H9.out.1.setCell (p := ⟨w3.heap.size, 3, none⟩) (fun e => by
          rcases H9.out.2.1 with q | q
          · rw [q] at e; have h5 := (HO3.out.block _ e).2; dsimp only at h5; omega
          · rw [q] at e; injection e with e; dsimp only at e; omega) (fun hT => by
          rcases hT with hT | hT | hT
          · have := hT.2.2; dsimp only at this; omega
          · dsimp only at hT; omega
          · dsimp only at hT; omega) (.slice A9 R.length c9)
        rw [← hwE] at h
        exact h.own (fun b hb => .inr (by rcases hb with hb | hb | hb; (exact hb.1.elim (fun h => h.elim) id); omega; omega)))
      have e0 : wE.cell? ⟨w3.heap.size, 0, none⟩ = some (.int .i64 gt) := hXE.cell 0
      have e1 : wE.cell? ⟨w3.heap.size, 1, none⟩ = some (.int .i64 (gn + 1)) := hXE.cell 1
      have e2 : wE.cell? ⟨w3.heap.size, 2, none⟩ = some (.int .i64 gn) := hXE.cell 2
      have e3 : wE.cell? ⟨w3.heap.size, 3, none⟩ = some (.slice A9 R.length c9) := hXE.cell 3
      have zXE : w3.heap.size < wE.heap.size := hXE.lt
      clear hwE hXE hkE
      go_wp2_with fail
      refine (finish_any ⟨gt, gn + 1, gn, R⟩ A9 c9 _ wE (by have h := HC2.out; rw [show starG ⟨gt, gn, gs, rs⟩ = ⟨gt, gn + 1, gn, R⟩ by rw [HRe.out]; rfl] at h; exact h) HC9.out.1 HC9.out.2 HOE.out.vl.els.2.2.2 (fun b hb => hb.2)).mono ?_
      rintro e w10 ⟨rfl, hb10⟩
      have HB10 := Lib.hid (bthen HBE.out hb10 HBE.out.size)
      have HR10 := Lib.hid (HRE.out.below hb10 HRE.out.lt)
      have HO10 := Lib.hid (HOE.out.below hb10 (Nat.le_refl _))
      have r0 := HR10.out.frozen 0
      have r1 := HR10.out.frozen 1
      have r2 := HR10.out.frozen 2
      have r3 := HR10.out.frozen 3
      have q0 : w10.cell? ⟨w.heap.size + 1, 0, none⟩ = some (.int .i64 0) := HR10.out.cell 0
      have q1 : w10.cell? ⟨w.heap.size + 1, 1, none⟩ = some (.int .i64 0) := HR10.out.cell 1
      have q2 : w10.cell? ⟨w.heap.size + 1, 2, none⟩ = some (.int .i64 0) := HR10.out.cell 2
      have q3 : w10.cell? ⟨w.heap.size + 1, 3, none⟩ = some (.slice none 0 0) := HR10.out.cell 3
      have zR : w.heap.size + 1 < w10.heap.size := HR10.out.lt
      clear e0 e1 e2 e3 hb10
      go_wp2_with fail
      generalize hwF : World.setCell _ _ _ = wF
      obtain ⟨hRF, kF⟩ := set4 HR10.out (.int .i64 gt) (.int .i64 (gn + 1)) (.int .i64 gn) (.slice A9 R.length c9)
      rw [hwF] at hRF kF
      have u0 : wF.cell? ⟨w.heap.size + 1, 0, none⟩ = some (.int .i64 gt) := hRF.cell 0
      have u1 : wF.cell? ⟨w.heap.size + 1, 1, none⟩ = some (.int .i64 (gn + 1)) := hRF.cell 1
      have u2 : wF.cell? ⟨w.heap.size + 1, 2, none⟩ = some (.int .i64 gn) := hRF.cell 2
      have u3 : wF.cell? ⟨w.heap.size + 1, 3, none⟩ = some (.slice A9 R.length c9) := hRF.cell 3
      clear hwF
      refine bodyPost_ret (v := .tuple #[.agg #[.int .i64 gt, .int .i64 (gn + 1), .int .i64 gn, .slice A9 R.length c9], .int .i64 0]) (by simp [results, Tryd.results35, go_sem, u0, u1, u2, u3]) rfl ⟨A9, c9, rfl, HC9.out.1, HC9.out.2, ?_, HB10.out.trans (kF.to_below (B := w.heap.size) (fun b (hb : b = w.heap.size + 1) => by omega) HB10.out.size)⟩
      exact ((HO10.out.kept kF (fun b (hb : b = w.heap.size + 1) h => h.elim id (fun h => by omega))).base (base' := w.heap.size) (by omega)).vl.els.2.2.2.keep (fun _ _ _ => rfl) (fun b hb => ⟨by rcases hb.1 with h | h; exact h.elim; exact h, hb.2⟩)
    case twoq1 =>
      go_simp
      go_at_call 69
      refine (n_any gs _).mono ?_
      rintro e s6 ⟨rfl, hb_s6⟩
      have HB_s6 : Hid (Below w4.heap.size w4 s6) := Lib.hid (bthen HB_q5.out hb_s6 HB_q5.out.size)
      have n0_s6 := (HB_s6.out.cell (p := ⟨w3.heap.size, 2, none⟩) zX).trans x2
      have n1_s6 := (HB_s6.out.cell (p := ⟨w.heap.size, 2, none⟩) zG4).trans g2
      have n3_s6 := (HB_s6.out.cell (p := ⟨w3.heap.size, 3, none⟩) zX).trans x3
      have zz_s6 : w4.heap.size ≤ s6.heap.size := HB_s6.out.size
      clear hb_s6
      refine hK.out _ _ ?hs12 (fun hHeld => ?rs12)
      case hs12 => ((try dsimp only); go_keep)
      clear hK Kq
      try simp only [Act.put, List.setIfInBounds_toArray, List.set_cons_zero, List.set_cons_succ]
      have zq1 : w3.heap.size < s6.heap.size := by omega
      have zq2 : w3.heap.size < s6.heap.size + 1 := by omega
      have zq3 : w3.heap.size < s6.heap.size + 1 + 1 := by omega
      have HLs : Hid (∀ wx, wx = s6.alloc (.cells #[.bool false, .int .i64 gn, .bool false, .int .i64 gs] 69) → Els wx (fun b => b = s6.heap.size) [(⟨false, gn⟩ : Sym), ⟨false, gs⟩] (some ⟨s6.heap.size, 0, none⟩)) := Lib.hid (fun wx h => by subst h; exact els_sym2 (s1 := ⟨false, gn⟩) (s2 := ⟨false, gs⟩) _ H64.out.2.1 H64.out.2.2)
      obtain ⟨w8, hw8⟩ : ∃ w8 : World, w8 = (s6.alloc (.cells #[.bool false, .int .i64 gn, .bool false, .int .i64 gs] 69)).alloc (.cells #[.int .i64 gn, .slice none 0 0, .int .i64 gn, .slice (some ⟨s6.heap.size, 0, none⟩) 2 2] 57) := ⟨_, rfl⟩
      have hb8 : Below w4.heap.size w4 w8 := by rw [hw8]; exact (HB_s6.out.alloc HB_s6.out.size _).alloc (by have := HB_s6.out.size; simp; omega) _
      have HB8 := Lib.hid hb8
      have HL8 : Hid (Els w8 (fun b => b = s6.heap.size ∨ b = s6.heap.size + 1) [(⟨gn, []⟩ : Rule), ⟨gn, [⟨false, gn⟩, ⟨false, gs⟩]⟩] (some ⟨s6.heap.size + 1, 0, none⟩)) := Lib.hid (by
        have h := els_rule2 (w := s6.alloc (.cells #[.bool false, .int .i64 gn, .bool false, .int .i64 gs] 69)) (S := fun b => b = s6.heap.size) (q1 := ⟨gn, []⟩) (q2 := ⟨gn, [⟨false, gn⟩, ⟨false, gs⟩]⟩) (A1 := none) (c1 := 0) (c2 := 2) 57 (fun h => absurd rfl h) (Nat.le_refl _) (by omega) (HLs.out _ rfl) (Nat.le_refl _) (by omega) H64.out.2.1 H64.out.2.1
        rw [hw8]
        have e : (s6.alloc (.cells #[.bool false, .int .i64 gn, .bool false, .int .i64 gs] 69)).heap.size = s6.heap.size + 1 := by simp
        rw [e] at h
        exact h)
      have HO8 : Hid (OwnX w8 (fun b => OwnT (fun _ => False) w2.heap.size (.slice A3 J.length c3) w3 b ∨ b = s6.heap.size ∨ b = s6.heap.size + 1) w2.heap.size 57 (.slice A3 J.length c3) J) := Lib.hid ((HT4.out.below hb8 (Nat.le_refl _)).mono (fun b hb => .inl hb) (fun k hk hT => by
        have h1 := HO3.out.block k hk
        have h9 := zz_s6
        have h4 := HB4.out.size
        rcases hT with hT | hT | hT
        · exact hT.2.1 hk
        · omega
        · omega) (fun b hb => by
        have h9 := zz_s6
        have h4 := HB4.out.size
        have h7 : w8.heap.size = s6.heap.size + 1 + 1 := by rw [hw8]; simp
        rcases hb with hb | hb | hb
        · have := hb.2.2; omega
        · omega
        · omega))
      have hX8 := HX4.out.below hb8 HX4.out.lt
      have HX8 := Lib.hid hX8
      have HZ8 : Hid (w8.heap.size = s6.heap.size + 1 + 1) := Lib.hid (by rw [hw8]; simp)
      have HW8 := Lib.hid hw8
      clear hw8 hb8 hX8 HLs
      refine take_two (i := 1) (j := 13) rfl rfl (by kernel_rfl) (by rfl) (by rfl) (fun Kq hK => ?ones1) (fun Kq hK => ?twos1)
      case ones1 =>
        go_simp
        refine hK.out _ _ ?hr1 (fun hHeld => ?rr1)
        case hr1 => ((try dsimp only); go_keep)
        clear hK Kq
        try simp only [Act.put, List.setIfInBounds_toArray, List.set_cons_zero, List.set_cons_succ]
        refine take_call (i := 13) rfl (by kernel_rfl) (by rfl) (fun Kq hK => ?_)
        go_simp
        refine hK.out _ _ ?hr13 (fun hHeld => ?rr13)
        case hr13 => ((try dsimp only); go_keep)
        clear hK Kq
        try simp only [Act.put, List.setIfInBounds_toArray, List.set_cons_zero, List.set_cons_succ]
        refine take_run (i := 14) (v := ?vr14) rfl (by kernel_rfl) (by kernel_rfl) (by kernel_rfl) (fun _ _ _ h => h) (by rfl) ?yr14 (by assumption) ?rr14
        case yr14 => (intro w hSw; (try dsimp only at hSw); go_simp; try with_reducible rfl)
        try simp only [Act.put, List.setIfInBounds_toArray, List.set_cons_zero, List.set_cons_succ]
        refine take_call (i := 15) rfl (by kernel_rfl) (by rfl) (fun Kq hK => ?_)
        go_simp
        refine hK.out _ _ ?hr15 (fun hHeld => ?rr15)
        case hr15 => ((try dsimp only); go_keep)
        clear hK Kq
        try simp only [Act.put, List.setIfInBounds_toArray, List.set_cons_zero, List.set_cons_succ]
        refine take_call (i := 16) rfl (by kernel_rfl) (by rfl) (fun Kq hK => ?_)
        rw [← HW8.out]
        refine wp_ownXMany _ _ elemRule rfl rfl HO8.out [(⟨gn, []⟩ : Rule), ⟨gn, [⟨false, gn⟩, ⟨false, gs⟩]⟩] rfl rfl (by simp) (HL8.out.keep (fun _ _ _ => rfl) (fun b hb => .inr hb)) (by have := HJl.out; simp; omega) (by have := HJl.out; simp; omega) (by have := HB4.out.size; have := HB8.out.size; omega) ?_
        intro v9 w9 hown9 hg9 hat9
        rw [HJ.out] at hown9
        obtain ⟨A9, c9, ev9, hc91, hc92, _⟩ := hown9.form
        subst ev9
        have hne : ∀ b, (b < w2.heap.size ∨ b = w3.heap.size) → some b ≠ (Value.slice A3 J.length c3).ownBlock := fun b hb e => by have h1 := HO3.out.block b e.symm; omega
        have hX9 := HX8.out.grown hg9 (hne _ (.inr rfl))
        have H9 := Lib.hid (And.intro hown9 (And.intro hat9 hX9))
        have hk9 : Kept (fun b => (Value.slice A3 J.length c3).ownBlock = some b) w4 w9 := (Kept.of_below _ HB8.out).grown hg9 (fun k hk => .inl hk)
        have HK9 := Lib.hid hk9
        have m0 := (hk9.cell (p := ⟨w3.heap.size, 2, none⟩) zX (fun e => hne _ (.inr rfl) e.symm)).trans x2
        have m1 := (hk9.cell (p := ⟨w.heap.size, 2, none⟩) zG4 (fun e => hne _ (.inl (by omega)) e.symm)).trans g2
        have m3 : w9.cell? ⟨w3.heap.size, 3, none⟩ = some (.slice A3 J.length c3) := hX9.cell 3
        have f3 := hX9.frozen 3
        have zX9 := hX9.lt
        have l0 : (w9.setCell ⟨w3.heap.size, 3, none⟩ (.slice A9 R.length c9)).cell? ⟨w3.heap.size, 2, none⟩ = some (.int .i64 gn) := (hX9.set_ 3 _).cell 2
        have l1 : (w9.setCell ⟨w3.heap.size, 3, none⟩ (.slice A9 R.length c9)).cell? ⟨w.heap.size, 2, none⟩ = some (.int .i64 gs) := (((Kept.refl (fun b => b = w3.heap.size) w9).setCell (p := ⟨w3.heap.size, 3, none⟩) (.inl rfl) _).cell (p := ⟨w.heap.size, 2, none⟩) (Nat.lt_of_lt_of_le zG4 hk9.size) (by show ¬ w.heap.size = w3.heap.size; omega)).trans m1
        have HLL := Lib.hid (And.intro l0 l1)
        have HC9 := Lib.hid (And.intro hc91 hc92)
        clear hown9 hg9 hat9 hX9 hk9 hne l0 l1
        refine hK.out _ _ ?hr16 (fun hHeld => ?rr16)
        case hr16 => ((try dsimp only); go_keep)
        clear hK Kq
        try simp only [Act.put, List.setIfInBounds_toArray, List.set_cons_zero, List.set_cons_succ]
        refine take_run (i := 17) (v := ?vr17) rfl (by kernel_rfl) (by kernel_rfl) (by kernel_rfl) (fun _ _ _ h => h) (by rfl) ?yr17 (by assumption) ?rr17
        case yr17 => (intro w hSw; (try dsimp only at hSw); go_simp; try with_reducible rfl)
        try simp only [Act.put, List.setIfInBounds_toArray, List.set_cons_zero, List.set_cons_succ]
        refine take_call (i := 18) rfl (by kernel_rfl) (by rfl) (fun Kq hK => ?_)
        go_simp
        refine hK.out _ _ ?hr18 (fun hHeld => ?rr18)
        case hr18 => exact HLL.out
        clear hK Kq
        try simp only [Act.put, List.setIfInBounds_toArray, List.set_cons_zero, List.set_cons_succ]
        refine wpAnyH_done (by kernel_rfl) ?_ _
        refine NoPanic.normal ?_
        obtain ⟨wE, hwE⟩ : ∃ wE : World, wE = w9.setCell ⟨w3.heap.size, 3, none⟩ (.slice A9 R.length c9) := ⟨_, rfl⟩
        rw [← hwE]
        have hXE : Blk' wE w3.heap.size 25 #[.int .i64 gt, .int .i64 (gn + 1), .int .i64 gn, .slice A9 R.length c9] := by rw [hwE]; exact H9.out.2.2.set_ 3 _
        have hkE : Kept (fun b => (Value.slice A3 J.length c3).ownBlock = some b ∨ b = w3.heap.size) w4 wE := by rw [hwE]; exact (HK9.out.mono (fun b _ h => .inl h)).setCell (p := ⟨w3.heap.size, 3, none⟩) (.inl (.inr rfl)) _
        have HRE := Lib.hid (HR4.out.kept hkE (fun h => by rcases h with h | h; (have := (HO3.out.block _ h).1; omega); omega))
        have HBE : Hid (Below w.heap.size w wE) := Lib.hid ((HB3.out.trans (HB4.out.mono (by have := HB3.out.size; omega))).trans (hkE.to_below (B := w.heap.size) (fun b hb => by rcases hb with h | h; (have := (HO3.out.block _ h).1; omega); omega) (by have := HB3.out.size; have := HB4.out.size; omega)))
        have HOE : Hid (Own wE (fun _ => False) w2.heap.size 57 (.slice A9 R.length c9) R) := Lib.hid (by
          have h4 := HB4.out.size
          have h9 := zz_s6
          have h8 := HB8.out.size
          have h := H9.out.1.setCell (p := ⟨w3.heap.size, 3, none⟩) (fun e => by
            rcases H9.out.2.1 with q | q
            · rw [q] at e; have h5 := (HO3.out.block _ e).2; dsimp only at h5; omega
            · rw [q] at e; injection e with e; dsimp only at e; omega) (fun hT => by
            rcases hT with hT | hT | hT
            · have := hT.2.2; dsimp only at this; omega
            · dsimp only at hT; omega
            · dsimp only at hT; omega) (.slice A9 R.length c9)
          rw [← hwE] at h
          exact h.own (fun b hb => .inr (by rcases hb with hb | hb | hb; (exact hb.1.elim (fun h => h.elim) id); omega; omega)))
        have e0 : wE.cell? ⟨w3.heap.size, 0, none⟩ = some (.int .i64 gt) := hXE.cell 0
        have e1 : wE.cell? ⟨w3.heap.size, 1, none⟩ = some (.int .i64 (gn + 1)) := hXE.cell 1
        have e2 : wE.cell? ⟨w3.heap.size, 2, none⟩ = some (.int .i64 gn) := hXE.cell 2
        have e3 : wE.cell? ⟨w3.heap.size, 3, none⟩ = some (.slice A9 R.length c9) := hXE.cell 3
        have zXE : w3.heap.size < wE.heap.size := hXE.lt
        clear hwE hXE hkE
        go_wp2_with fail
        refine (finish_any ⟨gt, gn + 1, gn, R⟩ A9 c9 _ wE (by have h := HC2.out; rw [show starG ⟨gt, gn, gs, rs⟩ = ⟨gt, gn + 1, gn, R⟩ by rw [HRe.out]; rfl] at h; exact h) HC9.out.1 HC9.out.2 HOE.out.vl.els.2.2.2 (fun b hb => hb.2)).mono ?_
        rintro e w10 ⟨rfl, hb10⟩
        have HB10 := Lib.hid (bthen HBE.out hb10 HBE.out.size)
        have HR10 := Lib.hid (HRE.out.below hb10 HRE.out.lt)
        have HO10 := Lib.hid (HOE.out.below hb10 (Nat.le_refl _))
        have r0 := HR10.out.frozen 0
        have r1 := HR10.out.frozen 1
        have r2 := HR10.out.frozen 2
        have r3 := HR10.out.frozen 3
        have q0 : w10.cell? ⟨w.heap.size + 1, 0, none⟩ = some (.int .i64 0) := HR10.out.cell 0
        have q1 : w10.cell? ⟨w.heap.size + 1, 1, none⟩ = some (.int .i64 0) := HR10.out.cell 1
        have q2 : w10.cell? ⟨w.heap.size + 1, 2, none⟩ = some (.int .i64 0) := HR10.out.cell 2
        have q3 : w10.cell? ⟨w.heap.size + 1, 3, none⟩ = some (.slice none 0 0) := HR10.out.cell 3
        have zR : w.heap.size + 1 < w10.heap.size := HR10.out.lt
        clear e0 e1 e2 e3 hb10
        go_wp2_with fail
        generalize hwF : World.setCell _ _ _ = wF
        obtain ⟨hRF, kF⟩ := set4 HR10.out (.int .i64 gt) (.int .i64 (gn + 1)) (.int .i64 gn) (.slice A9 R.length c9)
        rw [hwF] at hRF kF
        have u0 : wF.cell? ⟨w.heap.size + 1, 0, none⟩ = some (.int .i64 gt) := hRF.cell 0
        have u1 : wF.cell? ⟨w.heap.size + 1, 1, none⟩ = some (.int .i64 (gn + 1)) := hRF.cell 1
        have u2 : wF.cell? ⟨w.heap.size + 1, 2, none⟩ = some (.int .i64 gn) := hRF.cell 2
        have u3 : wF.cell? ⟨w.heap.size + 1, 3, none⟩ = some (.slice A9 R.length c9) := hRF.cell 3
        clear hwF
        refine bodyPost_ret (v := .tuple #[.agg #[.int .i64 gt, .int .i64 (gn + 1), .int .i64 gn, .slice A9 R.length c9], .int .i64 0]) (by simp [results, Tryd.results35, go_sem, u0, u1, u2, u3]) rfl ⟨A9, c9, rfl, HC9.out.1, HC9.out.2, ?_, HB10.out.trans (kF.to_below (B := w.heap.size) (fun b (hb : b = w.heap.size + 1) => by omega) HB10.out.size)⟩
        exact ((HO10.out.kept kF (fun b (hb : b = w.heap.size + 1) h => h.elim id (fun h => by omega))).base (base' := w.heap.size) (by omega)).vl.els.2.2.2.keep (fun _ _ _ => rfl) (fun b hb => ⟨by rcases hb.1 with h | h; exact h.elim; exact h, hb.2⟩)
      case twos1 =>
        go_simp
        refine hK.out _ _ ?hv13 (fun hHeld => ?rv13)
        case hv13 => ((try dsimp only); go_keep)
        clear hK Kq
        try simp only [Act.put, List.setIfInBounds_toArray, List.set_cons_zero, List.set_cons_succ]
        refine take_run (i := 14) (v := ?vv14) rfl (by kernel_rfl) (by kernel_rfl) (by kernel_rfl) (fun _ _ _ h => h) (by rfl) ?yv14 (by assumption) ?rv14
        case yv14 => (intro w hSw; (try dsimp only at hSw); go_simp; try with_reducible rfl)
        try simp only [Act.put, List.setIfInBounds_toArray, List.set_cons_zero, List.set_cons_succ]
        refine take_two (i := 1) (j := 15) rfl rfl (by kernel_rfl) (by rfl) (by rfl) (fun Kq hK => ?onev1) (fun Kq hK => ?twov1)
        case onev1 =>
          go_simp
          refine hK.out _ _ ?ht1 (fun hHeld => ?rt1)
          case ht1 => ((try dsimp only); go_keep)
          clear hK Kq
          try simp only [Act.put, List.setIfInBounds_toArray, List.set_cons_zero, List.set_cons_succ]
          refine take_call (i := 15) rfl (by kernel_rfl) (by rfl) (fun Kq hK => ?_)
          go_simp
          refine hK.out _ _ ?ht15 (fun hHeld => ?rt15)
          case ht15 => ((try dsimp only); go_keep)
          clear hK Kq
          try simp only [Act.put, List.setIfInBounds_toArray, List.set_cons_zero, List.set_cons_succ]
          refine take_call (i := 16) rfl (by kernel_rfl) (by rfl) (fun Kq hK => ?_)
          rw [← HW8.out]
          refine wp_ownXMany _ _ elemRule rfl rfl HO8.out [(⟨gn, []⟩ : Rule), ⟨gn, [⟨false, gn⟩, ⟨false, gs⟩]⟩] rfl rfl (by simp) (HL8.out.keep (fun _ _ _ => rfl) (fun b hb => .inr hb)) (by have := HJl.out; simp; omega) (by have := HJl.out; simp; omega) (by have := HB4.out.size; have := HB8.out.size; omega) ?_
          intro v9 w9 hown9 hg9 hat9
          rw [HJ.out] at hown9
          obtain ⟨A9, c9, ev9, hc91, hc92, _⟩ := hown9.form
          subst ev9
          have hne : ∀ b, (b < w2.heap.size ∨ b = w3.heap.size) → some b ≠ (Value.slice A3 J.length c3).ownBlock := fun b hb e => by have h1 := HO3.out.block b e.symm; omega
          have hX9 := HX8.out.grown hg9 (hne _ (.inr rfl))
          have H9 := Lib.hid (And.intro hown9 (And.intro hat9 hX9))
          have hk9 : Kept (fun b => (Value.slice A3 J.length c3).ownBlock = some b) w4 w9 := (Kept.of_below _ HB8.out).grown hg9 (fun k hk => .inl hk)
          have HK9 := Lib.hid hk9
          have m0 := (hk9.cell (p := ⟨w3.heap.size, 2, none⟩) zX (fun e => hne _ (.inr rfl) e.symm)).trans x2
          have m1 := (hk9.cell (p := ⟨w.heap.size, 2, none⟩) zG4 (fun e => hne _ (.inl (by omega)) e.symm)).trans g2
          have m3 : w9.cell? ⟨w3.heap.size, 3, none⟩ = some (.slice A3 J.length c3) := hX9.cell 3
          have f3 := hX9.frozen 3
          have zX9 := hX9.lt
          have l0 : (w9.setCell ⟨w3.heap.size, 3, none⟩ (.slice A9 R.length c9)).cell? ⟨w3.heap.size, 2, none⟩ = some (.int .i64 gn) := (hX9.set_ 3 _).cell 2
          have l1 : (w9.setCell ⟨w3.heap.size, 3, none⟩ (.slice A9 R.length c9)).cell? ⟨w.heap.size, 2, none⟩ = some (.int .i64 gs) := (((Kept.refl (fun b => b = w3.heap.size) w9).setCell (p := ⟨w3.heap.size, 3, none⟩) (.inl rfl) _).cell (p := ⟨w.heap.size, 2, none⟩) (Nat.lt_of_lt_of_le zG4 hk9.size) (by show ¬ w.heap.size = w3.heap.size; omega)).trans m1
          have HLL := Lib.hid (And.intro l0 l1)
          have HC9 := Lib.hid (And.intro hc91 hc92)
          clear hown9 hg9 hat9 hX9 hk9 hne l0 l1
          refine hK.out _ _ ?ht16 (fun hHeld => ?rt16)
          case ht16 => ((try dsimp only); go_keep)
          clear hK Kq
          try simp only [Act.put, List.setIfInBounds_toArray, List.set_cons_zero, List.set_cons_succ]
          refine take_run (i := 17) (v := ?vt17) rfl (by kernel_rfl) (by kernel_rfl) (by kernel_rfl) (fun _ _ _ h => h) (by rfl) ?yt17 (by assumption) ?rt17
          case yt17 => (intro w hSw; (try dsimp only at hSw); go_simp; try with_reducible rfl)
          try simp only [Act.put, List.setIfInBounds_toArray, List.set_cons_zero, List.set_cons_succ]
          refine take_call (i := 18) rfl (by kernel_rfl) (by rfl) (fun Kq hK => ?_)
          go_simp
          refine hK.out _ _ ?ht18 (fun hHeld => ?rt18)
          case ht18 => exact HLL.out
          clear hK Kq
          try simp only [Act.put, List.setIfInBounds_toArray, List.set_cons_zero, List.set_cons_succ]
          refine wpAnyH_done (by kernel_rfl) ?_ _
          refine NoPanic.normal ?_
          obtain ⟨wE, hwE⟩ : ∃ wE : World, wE = w9.setCell ⟨w3.heap.size, 3, none⟩ (.slice A9 R.length c9) := ⟨_, rfl⟩
          rw [← hwE]
          have hXE : Blk' wE w3.heap.size 25 #[.int .i64 gt, .int .i64 (gn + 1), .int .i64 gn, .slice A9 R.length c9] := by rw [hwE]; exact H9.out.2.2.set_ 3 _
          have hkE : Kept (fun b => (Value.slice A3 J.length c3).ownBlock = some b ∨ b = w3.heap.size) w4 wE := by rw [hwE]; exact (HK9.out.mono (fun b _ h => .inl h)).setCell (p := ⟨w3.heap.size, 3, none⟩) (.inl (.inr rfl)) _
          have HRE := Lib.hid (HR4.out.kept hkE (fun h => by rcases h with h | h; (have := (HO3.out.block _ h).1; omega); omega))
          have HBE : Hid (Below w.heap.size w wE) := Lib.hid ((HB3.out.trans (HB4.out.mono (by have := HB3.out.size; omega))).trans (hkE.to_below (B := w.heap.size) (fun b hb => by rcases hb with h | h; (have := (HO3.out.block _ h).1; omega); omega) (by have := HB3.out.size; have := HB4.out.size; omega)))
          have HOE : Hid (Own wE (fun _ => False) w2.heap.size 57 (.slice A9 R.length c9) R) := Lib.hid (by
            have h4 := HB4.out.size
            have h9 := zz_s6
            have h8 := HB8.out.size
            have h := H9.out.1.setCell (p := ⟨w3.heap.size, 3, none⟩) (fun e => by
              rcases H9.out.2.1 with q | q
              · rw [q] at e; have h5 := (HO3.out.block _ e).2; dsimp only at h5; omega
              · rw [q] at e; injection e with e; dsimp only at e; omega) (fun hT => by
              rcases hT with hT | hT | hT
              · have := hT.2.2; dsimp only at this; omega
              · dsimp only at hT; omega
              · dsimp only at hT; omega) (.slice A9 R.length c9)
            rw [← hwE] at h
            exact h.own (fun b hb => .inr (by rcases hb with hb | hb | hb; (exact hb.1.elim (fun h => h.elim) id); omega; omega)))
          have e0 : wE.cell? ⟨w3.heap.size, 0, none⟩ = some (.int .i64 gt) := hXE.cell 0
          have e1 : wE.cell? ⟨w3.heap.size, 1, none⟩ = some (.int .i64 (gn + 1)) := hXE.cell 1
          have e2 : wE.cell? ⟨w3.heap.size, 2, none⟩ = some (.int .i64 gn) := hXE.cell 2
          have e3 : wE.cell? ⟨w3.heap.size, 3, none⟩ = some (.slice A9 R.length c9) := hXE.cell 3
          have zXE : w3.heap.size < wE.heap.size := hXE.lt
          clear hwE hXE hkE
          go_wp2_with fail
          refine (finish_any ⟨gt, gn + 1, gn, R⟩ A9 c9 _ wE (by have h := HC2.out; rw [show starG ⟨gt, gn, gs, rs⟩ = ⟨gt, gn + 1, gn, R⟩ by rw [HRe.out]; rfl] at h; exact h) HC9.out.1 HC9.out.2 HOE.out.vl.els.2.2.2 (fun b hb => hb.2)).mono ?_
          rintro e w10 ⟨rfl, hb10⟩
          have HB10 := Lib.hid (bthen HBE.out hb10 HBE.out.size)
          have HR10 := Lib.hid (HRE.out.below hb10 HRE.out.lt)
          have HO10 := Lib.hid (HOE.out.below hb10 (Nat.le_refl _))
          have r0 := HR10.out.frozen 0
          have r1 := HR10.out.frozen 1
          have r2 := HR10.out.frozen 2
          have r3 := HR10.out.frozen 3
          have q0 : w10.cell? ⟨w.heap.size + 1, 0, none⟩ = some (.int .i64 0) := HR10.out.cell 0
          have q1 : w10.cell? ⟨w.heap.size + 1, 1, none⟩ = some (.int .i64 0) := HR10.out.cell 1
          have q2 : w10.cell? ⟨w.heap.size + 1, 2, none⟩ = some (.int .i64 0) := HR10.out.cell 2
          have q3 : w10.cell? ⟨w.heap.size + 1, 3, none⟩ = some (.slice none 0 0) := HR10.out.cell 3
          have zR : w.heap.size + 1 < w10.heap.size := HR10.out.lt
          clear e0 e1 e2 e3 hb10
          go_wp2_with fail
          generalize hwF : World.setCell _ _ _ = wF
          obtain ⟨hRF, kF⟩ := set4 HR10.out (.int .i64 gt) (.int .i64 (gn + 1)) (.int .i64 gn) (.slice A9 R.length c9)
          rw [hwF] at hRF kF
          have u0 : wF.cell? ⟨w.heap.size + 1, 0, none⟩ = some (.int .i64 gt) := hRF.cell 0
          have u1 : wF.cell? ⟨w.heap.size + 1, 1, none⟩ = some (.int .i64 (gn + 1)) := hRF.cell 1
          have u2 : wF.cell? ⟨w.heap.size + 1, 2, none⟩ = some (.int .i64 gn) := hRF.cell 2
          have u3 : wF.cell? ⟨w.heap.size + 1, 3, none⟩ = some (.slice A9 R.length c9) := hRF.cell 3
          clear hwF
          refine bodyPost_ret (v := .tuple #[.agg #[.int .i64 gt, .int .i64 (gn + 1), .int .i64 gn, .slice A9 R.length c9], .int .i64 0]) (by simp [results, Tryd.results35, go_sem, u0, u1, u2, u3]) rfl ⟨A9, c9, rfl, HC9.out.1, HC9.out.2, ?_, HB10.out.trans (kF.to_below (B := w.heap.size) (fun b (hb : b = w.heap.size + 1) => by omega) HB10.out.size)⟩
          exact ((HO10.out.kept kF (fun b (hb : b = w.heap.size + 1) h => h.elim id (fun h => by omega))).base (base' := w.heap.size) (by omega)).vl.els.2.2.2.keep (fun _ _ _ => rfl) (fun b hb => ⟨by rcases hb.1 with h | h; exact h.elim; exact h, hb.2⟩)
        case twov1 =>
          go_simp
          refine hK.out _ _ ?hu15 (fun hHeld => ?ru15)
          case hu15 => ((try dsimp only); go_keep)
          clear hK Kq
          try simp only [Act.put, List.setIfInBounds_toArray, List.set_cons_zero, List.set_cons_succ]
          refine take_call (i := 1) rfl (by kernel_rfl) (by rfl) (fun Kq hK => ?_)
          go_simp
          refine hK.out _ _ ?hu1 (fun hHeld => ?ru1)
          case hu1 => ((try dsimp only); go_keep)
          clear hK Kq
          try simp only [Act.put, List.setIfInBounds_toArray, List.set_cons_zero, List.set_cons_succ]
          refine take_call (i := 16) rfl (by kernel_rfl) (by rfl) (fun Kq hK => ?_)
          rw [← HW8.out]
          refine wp_ownXMany _ _ elemRule rfl rfl HO8.out [(⟨gn, []⟩ : Rule), ⟨gn, [⟨false, gn⟩, ⟨false, gs⟩]⟩] rfl rfl (by simp) (HL8.out.keep (fun _ _ _ => rfl) (fun b hb => .inr hb)) (by have := HJl.out; simp; omega) (by have := HJl.out; simp; omega) (by have := HB4.out.size; have := HB8.out.size; omega) ?_
          intro v9 w9 hown9 hg9 hat9
          rw [HJ.out] at hown9
          obtain ⟨A9, c9, ev9, hc91, hc92, _⟩ := hown9.form
          subst ev9
          have hne : ∀ b, (b < w2.heap.size ∨ b = w3.heap.size) → some b ≠ (Value.slice A3 J.length c3).ownBlock := fun b hb e => by have h1 := HO3.out.block b e.symm; omega
          have hX9 := HX8.out.grown hg9 (hne _ (.inr rfl))
          have H9 := Lib.hid (And.intro hown9 (And.intro hat9 hX9))
          have hk9 : Kept (fun b => (Value.slice A3 J.length c3).ownBlock = some b) w4 w9 := (Kept.of_below _ HB8.out).grown hg9 (fun k hk => .inl hk)
          have HK9 := Lib.hid hk9
          have m0 := (hk9.cell (p := ⟨w3.heap.size, 2, none⟩) zX (fun e => hne _ (.inr rfl) e.symm)).trans x2
          have m1 := (hk9.cell (p := ⟨w.heap.size, 2, none⟩) zG4 (fun e => hne _ (.inl (by omega)) e.symm)).trans g2
          have m3 : w9.cell? ⟨w3.heap.size, 3, none⟩ = some (.slice A3 J.length c3) := hX9.cell 3
          have f3 := hX9.frozen 3
          have zX9 := hX9.lt
          have l0 : (w9.setCell ⟨w3.heap.size, 3, none⟩ (.slice A9 R.length c9)).cell? ⟨w3.heap.size, 2, none⟩ = some (.int .i64 gn) := (hX9.set_ 3 _).cell 2
          have l1 : (w9.setCell ⟨w3.heap.size, 3, none⟩ (.slice A9 R.length c9)).cell? ⟨w.heap.size, 2, none⟩ = some (.int .i64 gs) := (((Kept.refl (fun b => b = w3.heap.size) w9).setCell (p := ⟨w3.heap.size, 3, none⟩) (.inl rfl) _).cell (p := ⟨w.heap.size, 2, none⟩) (Nat.lt_of_lt_of_le zG4 hk9.size) (by show ¬ w.heap.size = w3.heap.size; omega)).trans m1
          have HLL := Lib.hid (And.intro l0 l1)
          have HC9 := Lib.hid (And.intro hc91 hc92)
          clear hown9 hg9 hat9 hX9 hk9 hne l0 l1
          refine hK.out _ _ ?hu16 (fun hHeld => ?ru16)
          case hu16 => ((try dsimp only); go_keep)
          clear hK Kq
          try simp only [Act.put, List.setIfInBounds_toArray, List.set_cons_zero, List.set_cons_succ]
          refine take_run (i := 17) (v := ?vu17) rfl (by kernel_rfl) (by kernel_rfl) (by kernel_rfl) (fun _ _ _ h => h) (by rfl) ?yu17 (by assumption) ?ru17
          case yu17 => (intro w hSw; (try dsimp only at hSw); go_simp; try with_reducible rfl)
          try simp only [Act.put, List.setIfInBounds_toArray, List.set_cons_zero, List.set_cons_succ]
          refine take_call (i := 18) rfl (by kernel_rfl) (by rfl) (fun Kq hK => ?_)
          go_simp
          refine hK.out _ _ ?hu18 (fun hHeld => ?ru18)
          case hu18 => exact HLL.out
          clear hK Kq
          try simp only [Act.put, List.setIfInBounds_toArray, List.set_cons_zero, List.set_cons_succ]
          refine wpAnyH_done (by kernel_rfl) ?_ _
          refine NoPanic.normal ?_
          obtain ⟨wE, hwE⟩ : ∃ wE : World, wE = w9.setCell ⟨w3.heap.size, 3, none⟩ (.slice A9 R.length c9) := ⟨_, rfl⟩
          rw [← hwE]
          have hXE : Blk' wE w3.heap.size 25 #[.int .i64 gt, .int .i64 (gn + 1), .int .i64 gn, .slice A9 R.length c9] := by rw [hwE]; exact H9.out.2.2.set_ 3 _
          have hkE : Kept (fun b => (Value.slice A3 J.length c3).ownBlock = some b ∨ b = w3.heap.size) w4 wE := by rw [hwE]; exact (HK9.out.mono (fun b _ h => .inl h)).setCell (p := ⟨w3.heap.size, 3, none⟩) (.inl (.inr rfl)) _
          have HRE := Lib.hid (HR4.out.kept hkE (fun h => by rcases h with h | h; (have := (HO3.out.block _ h).1; omega); omega))
          have HBE : Hid (Below w.heap.size w wE) := Lib.hid ((HB3.out.trans (HB4.out.mono (by have := HB3.out.size; omega))).trans (hkE.to_below (B := w.heap.size) (fun b hb => by rcases hb with h | h; (have := (HO3.out.block _ h).1; omega); omega) (by have := HB3.out.size; have := HB4.out.size; omega)))
          have HOE : Hid (Own wE (fun _ => False) w2.heap.size 57 (.slice A9 R.length c9) R) := Lib.hid (by
            have h4 := HB4.out.size
            have h9 := zz_s6
            have h8 := HB8.out.size
            have h := H9.out.1.setCell (p := ⟨w3.heap.size, 3, none⟩) (fun e => by
              rcases H9.out.2.1 with q | q
              · rw [q] at e; have h5 := (HO3.out.block _ e).2; dsimp only at h5; omega
              · rw [q] at e; injection e with e; dsimp only at e; omega) (fun hT => by
              rcases hT with hT | hT | hT
              · have := hT.2.2; dsimp only at this; omega
              · dsimp only at hT; omega
              · dsimp only at hT; omega) (.slice A9 R.length c9)
            rw [← hwE] at h
            exact h.own (fun b hb => .inr (by rcases hb with hb | hb | hb; (exact hb.1.elim (fun h => h.elim) id); omega; omega)))
          have e0 : wE.cell? ⟨w3.heap.size, 0, none⟩ = some (.int .i64 gt) := hXE.cell 0
          have e1 : wE.cell? ⟨w3.heap.size, 1, none⟩ = some (.int .i64 (gn + 1)) := hXE.cell 1
          have e2 : wE.cell? ⟨w3.heap.size, 2, none⟩ = some (.int .i64 gn) := hXE.cell 2
          have e3 : wE.cell? ⟨w3.heap.size, 3, none⟩ = some (.slice A9 R.length c9) := hXE.cell 3
          have zXE : w3.heap.size < wE.heap.size := hXE.lt
          clear hwE hXE hkE
          go_wp2_with fail
          refine (finish_any ⟨gt, gn + 1, gn, R⟩ A9 c9 _ wE (by have h := HC2.out; rw [show starG ⟨gt, gn, gs, rs⟩ = ⟨gt, gn + 1, gn, R⟩ by rw [HRe.out]; rfl] at h; exact h) HC9.out.1 HC9.out.2 HOE.out.vl.els.2.2.2 (fun b hb => hb.2)).mono ?_
          rintro e w10 ⟨rfl, hb10⟩
          have HB10 := Lib.hid (bthen HBE.out hb10 HBE.out.size)
          have HR10 := Lib.hid (HRE.out.below hb10 HRE.out.lt)
          have HO10 := Lib.hid (HOE.out.below hb10 (Nat.le_refl _))
          have r0 := HR10.out.frozen 0
          have r1 := HR10.out.frozen 1
          have r2 := HR10.out.frozen 2
          have r3 := HR10.out.frozen 3
          have q0 : w10.cell? ⟨w.heap.size + 1, 0, none⟩ = some (.int .i64 0) := HR10.out.cell 0
          have q1 : w10.cell? ⟨w.heap.size + 1, 1, none⟩ = some (.int .i64 0) := HR10.out.cell 1
          have q2 : w10.cell? ⟨w.heap.size + 1, 2, none⟩ = some (.int .i64 0) := HR10.out.cell 2
          have q3 : w10.cell? ⟨w.heap.size + 1, 3, none⟩ = some (.slice none 0 0) := HR10.out.cell 3
          have zR : w.heap.size + 1 < w10.heap.size := HR10.out.lt
          clear e0 e1 e2 e3 hb10
          go_wp2_with fail
          generalize hwF : World.setCell _ _ _ = wF
          obtain ⟨hRF, kF⟩ := set4 HR10.out (.int .i64 gt) (.int .i64 (gn + 1)) (.int .i64 gn) (.slice A9 R.length c9)
          rw [hwF] at hRF kF
          have u0 : wF.cell? ⟨w.heap.size + 1, 0, none⟩ = some (.int .i64 gt) := hRF.cell 0
          have u1 : wF.cell? ⟨w.heap.size + 1, 1, none⟩ = some (.int .i64 (gn + 1)) := hRF.cell 1
          have u2 : wF.cell? ⟨w.heap.size + 1, 2, none⟩ = some (.int .i64 gn) := hRF.cell 2
          have u3 : wF.cell? ⟨w.heap.size + 1, 3, none⟩ = some (.slice A9 R.length c9) := hRF.cell 3
          clear hwF
          refine bodyPost_ret (v := .tuple #[.agg #[.int .i64 gt, .int .i64 (gn + 1), .int .i64 gn, .slice A9 R.length c9], .int .i64 0]) (by simp [results, Tryd.results35, go_sem, u0, u1, u2, u3]) rfl ⟨A9, c9, rfl, HC9.out.1, HC9.out.2, ?_, HB10.out.trans (kF.to_below (B := w.heap.size) (fun b (hb : b = w.heap.size + 1) => by omega) HB10.out.size)⟩
          exact ((HO10.out.kept kF (fun b (hb : b = w.heap.size + 1) h => h.elim id (fun h => by omega))).base (base' := w.heap.size) (by omega)).vl.els.2.2.2.keep (fun _ _ _ => rfl) (fun b hb => ⟨by rcases hb.1 with h | h; exact h.elim; exact h, hb.2⟩)
end Go.Proofs.YtnlpeiffbnlncaaDoor
