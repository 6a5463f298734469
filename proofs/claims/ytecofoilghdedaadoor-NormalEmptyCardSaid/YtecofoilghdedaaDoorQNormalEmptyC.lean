/- Contract: the law NormalEmpty: true at every input. -/
import Derived.Test.YtecofoilghdedaaDoorQNormals
import Derived.Test.YtecofoilghdedaaDoorQNormEmptyP
import Derived.Test.YtecofoilghdedaaDoorQAccepts
import Derived.Test.YtecofoilghdedaaDoorQApartP
import Derived.Test.YtecofoilghdedaaDoorQp1
namespace Go.Proofs.YtecofoilghdedaaDoor
open Go.RowKit
set_option linter.unusedVariables false

set_option maxRecDepth 100000 in
set_option maxHeartbeats 4000000 in
theorem normalEmpty_any (A0 : Option Addr) (c0 : Nat) (raw : List Int) (S0 : Nat → Prop) (w : World) (h1 : raw.length ≤ c0) (h2 : c0 ≤ 9223372036854775807) (hA0 : Els w S0 raw A0) (hS0 : ∀ b, S0 b → b < w.heap.size) (hT : Tab32 w) :
    Calls Tryd.prog 3 #[.slice A0 raw.length c0] w fun e w' => e = .returned (.bool true) ∧ Below w.heap.size w w' := by
  go_enter Tryd.func3, Tryd.ntmps3
  go_wp2_with fail
  refine (grammar_any A0 c0 raw S0 _ h1 h2 hA0 hS0).mono ?_
  rintro e w1 ⟨g, v, hmade, rfl, hvl, hb1⟩
  obtain ⟨s, rfl, _, _, _, hs⟩ := hvl.gram
  obtain ⟨A, c, rfl, hlc, hc, hA⟩ := hs.slice
  have hck := made_check hmade
  have hvg := validG_of hck
  obtain ⟨t, nn, s0, rs⟩ := g
  dsimp only at *
  obtain ⟨n, hn⟩ : ∃ n : Nat, nn = (n : Int) := ⟨nn.toNat, by have := hvg.n1; dsimp only at this; omega⟩
  obtain ⟨m, hm⟩ : ∃ m : Nat, t = (m : Int) := ⟨t.toNat, by have := hvg.t1; dsimp only at this; omega⟩
  obtain ⟨s, hs0⟩ : ∃ s : Nat, s0 = (s : Int) := ⟨s0.toNat, by have := hvg.s0; dsimp only at this; omega⟩
  subst hn; subst hm; subst hs0
  have hsn : s < n := by have := hvg.s1; dsimp only at this; omega
  have HCk := Lib.hid hck
  have HV := Lib.hid hvg
  have HA1 := Lib.hid hA
  obtain ⟨w2, hw2⟩ : ∃ w2 : World, w2 = w1.alloc (.cells #[.int .i64 (m : Int), .int .i64 (n : Int), .int .i64 (s : Int), .slice A rs.length c] 25) := ⟨_, rfl⟩
  have HW2 := Lib.hid hw2
  have HG2 : Hid (Blk' w2 w1.heap.size 25 #[.int .i64 (m : Int), .int .i64 (n : Int), .int .i64 (s : Int), .slice A rs.length c]) := Lib.hid (by rw [hw2]; exact Blk'.new _ _ _)
  have hb2 : Below w1.heap.size w1 w2 := by rw [hw2]; exact (Below.refl _ _).alloc (Nat.le_refl _) _
  have HB2 := Lib.hid (bthen hb1 hb2 hb1.size)
  have HA2 := Lib.hid (HA1.out.below hb2)
  have HZ2 : Hid (w1.heap.size ≤ w2.heap.size) := Lib.hid hb2.size
  clear hvl hs hA hb1 hmade hA0 hck hvg hw2 hb2
  go_upto_region 2 with (fail)
  rw [← HW2.out]
  have g0 : w2.cell? ⟨w1.heap.size, 0, none⟩ = some (.int .i64 (m : Int)) := HG2.out.cell 0
  have g1 : w2.cell? ⟨w1.heap.size, 1, none⟩ = some (.int .i64 (n : Int)) := HG2.out.cell 1
  have g2 : w2.cell? ⟨w1.heap.size, 2, none⟩ = some (.int .i64 (s : Int)) := HG2.out.cell 2
  have g3 : w2.cell? ⟨w1.heap.size, 3, none⟩ = some (.slice A rs.length c) := HG2.out.cell 3
  have zG : w1.heap.size < w2.heap.size := HG2.out.lt
  go_wp2_with fail
  refine (normOf_any m n s rs A c _ w2 HCk.out hlc hc HA2.out (fun b hb => by have := hb.2; have := HZ2.out; omega)).mono ?_
  rintro e w3 ⟨A1, c1, A2, c2, em, xs, ys, rfl, hem, hx, hy, hxl, hyl, hc1, hc1m, hc2, hc2m, hE1, hE2, hb3⟩
  have HEm : Hid (em = true ↔ DerW ⟨(m : Int), (n : Int), (s : Int), rs⟩ [⟨false, (s : Int)⟩] []) := Lib.hid (hem.trans (nul_iff (m := m) HV.out hsn))
  obtain ⟨N, hN⟩ : ∃ N, N = leafN n rs + m := ⟨_, rfl⟩
  rw [← hN]
  obtain ⟨w4, hw4⟩ : ∃ w4 : World, w4 = w3.alloc (.cells #[.int .i64 (m : Int), .int .i64 (N : Int), .int .i64 (s : Int), .bool em, .slice A1 xs.length c1, .slice A2 ys.length c2] 30) := ⟨_, rfl⟩
  have HW4 := Lib.hid hw4
  have hb4 : Below w3.heap.size w3 w4 := by rw [hw4]; exact (Below.refl _ _).alloc (Nat.le_refl _) _
  have HO4 : Hid (w4.cell? ⟨w3.heap.size, 3, none⟩ = some (.bool em)) := Lib.hid (by rw [hw4]; exact (Blk'.new w3 30 #[.int .i64 (m : Int), .int .i64 (N : Int), .int .i64 (s : Int), .bool em, .slice A1 xs.length c1, .slice A2 ys.length c2]).cell 3)
  have HG4 := Lib.hid ((HG2.out.below hb3 HG2.out.lt).below hb4 (HG2.out.below hb3 HG2.out.lt).lt)
  have HA4 := Lib.hid ((HA2.out.below hb3).below hb4)
  have HB4 := Lib.hid (bthen (bthen HB2.out hb3 HB2.out.size) hb4 (by have := HB2.out.size; have := hb3.size; omega))
  have HZ4 : Hid (w1.heap.size ≤ w4.heap.size ∧ w3.heap.size < w4.heap.size) := Lib.hid ⟨by have := HZ2.out; have := hb3.size; have := hb4.size; omega, by rw [hw4]; simp⟩
  clear g0 g1 g2 g3 zG hb3 hb4 hw4 hE1 hE2 hx hy hem hN
  go_upto_region 3 with (fail)
  rw [← HW4.out]
  clear HW2 HW4
  have g0 : w4.cell? ⟨w1.heap.size, 0, none⟩ = some (.int .i64 (m : Int)) := HG4.out.cell 0
  have g1 : w4.cell? ⟨w1.heap.size, 1, none⟩ = some (.int .i64 (n : Int)) := HG4.out.cell 1
  have g2 : w4.cell? ⟨w1.heap.size, 2, none⟩ = some (.int .i64 (s : Int)) := HG4.out.cell 2
  have g3 : w4.cell? ⟨w1.heap.size, 3, none⟩ = some (.slice A rs.length c) := HG4.out.cell 3
  have zG : w1.heap.size < w4.heap.size := HG4.out.lt
  go_wp2_with fail
  refine (accepts_any ⟨(m : Int), (n : Int), (s : Int), rs⟩ [] A none c 0 _ (fun _ => False) w4 HCk.out hlc hc HA4.out (fun b hb => by have := hb.2; have := HZ4.out; omega) (fun h => absurd rfl h) (fun _ h => h.elim) rfl (hT.below HB4.out hT.1)).mono ?_
  rintro e w5 ⟨b, rfl, hbd, hb5⟩
  have hbe : em = b := by
    have h := HEm.out.trans hbd.symm
    cases em <;> cases b <;> simp at h ⊢
  have HB5 := Lib.hid (bthen HB4.out hb5 HB4.out.size)
  have HO5 := Lib.hid ((hb5.cell (p := ⟨w3.heap.size, 3, none⟩) HZ4.out.2).trans HO4.out)
  have HZ5 : Hid (w3.heap.size < w5.heap.size) := Lib.hid (Nat.lt_of_lt_of_le HZ4.out.2 hb5.size)
  subst hbe
  clear g0 g1 g2 g3 zG hb5 hbd
  go_wp2_with fail
  refine (normals_any w5).mono ?_
  rintro e w6 ⟨rfl, hb6⟩
  have o3 : w6.cell? ⟨w3.heap.size, 3, none⟩ = some (.bool em) := (hb6.cell (p := ⟨w3.heap.size, 3, none⟩) HZ5.out).trans HO5.out
  have zO : w3.heap.size < w6.heap.size := Nat.lt_of_lt_of_le HZ5.out hb6.size
  have HB6 := Lib.hid (bthen HB5.out hb6 HB5.out.size)
  clear hb6
  cases em
  all_goals
    go_wp2
    go_ret
    exact ⟨rfl, HB6.out⟩
theorem normalEmpty_row (l : List Int) (v : Value) (W : World) (h : Vl W (OldS W) l v) (hT : Tab32 W) :
    Calls Tryd.prog 3 #[v] W fun e W' => e = .returned (.bool true) ∧ Below W.heap.size W W' := by
  obtain ⟨A, c, rfl, k1, k2, hA⟩ := h.slice
  exact normalEmpty_any A c l (OldS W) W k1 k2 hA (fun b h => h) hT
end Go.Proofs.YtecofoilghdedaaDoor
