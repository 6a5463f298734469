/- Contract: parlkeep2.climbs. -/
import Derived.Test.YtjdojogjogenkaaDoorQClimb
import Derived.Test.YtjdojogjogenkaaDoorQp1
import Derived.Test.YtjdojogjogenkaaDoorQw2
namespace Go.Proofs.YtjdojogjogenkaaDoor
open Go.RowKit
set_option linter.unusedVariables false

theorem par_zero : ParE ⟨8, 0, -1, -1, []⟩ [0] 0 0 (.ok ⟨0, 0, [leafT 0]⟩ 1) := ParE.step (.opd rfl _ (.atom (by simp [brk]) rfl))
theorem par_none : ParE ⟨8, 0, -1, -1, []⟩ [] 0 0 (.rej 0) := ParE.step (.opd rfl _ (.none (by simp [brk]) (by simp)))
theorem i64_8 : I64 8 := ⟨by decide, by decide⟩
theorem i64_m1 : I64 (-1) := ⟨by decide, by decide⟩
theorem Els.nilA {α : Type} [Dat α] {w : World} {S : Nat → Prop} {A : Option Addr} : Els w S ([] : List α) A := fun h => absurd rfl h

set_option maxRecDepth 100000 in
set_option maxHeartbeats 1000000 in
theorem climbs_any (w : World) : Calls Tryd.prog 31 #[] w fun e w' => e = .returned (.bool true) ∧ Below w.heap.size w w' := by
  go_enter Tryd.func31, Tryd.ntmps31
  go_wp2_with fail
  refine (operators_any [] none 0 (fun _ => False) w (by simp) (by omega) Els.nilA (fun _ h => h.elim)).mono ?_
  rintro e w1 ⟨t, v, k, rfl, hO, hnil, hv, hb1⟩
  obtain ⟨hop, hlev⟩ := hnil rfl
  obtain ⟨A, c, rfl, hl1, hl2, _⟩ := hv.slice
  have ht : t = ⟨8, 0, -1, -1, []⟩ := by
    obtain ⟨tm, a, o, cl, ls⟩ := t
    have h1 := hO.terms
    have h2 := hO.atom
    have h3 := hO.br
    dsimp only at h1 h2 h3 hop hlev
    subst h1; subst h2; subst hop; subst hlev
    rcases h3 with ⟨_, h3⟩ | ⟨h3, _⟩
    · rw [h3]
    · omega
  subst ht
  have HB1 := Lib.hid hb1
  obtain ⟨w3, hw3⟩ : ∃ w3 : World, w3 = (w1.alloc (.cells #[.int .i64 8, .int .i64 0, .int .i64 (-1), .int .i64 (-1), .slice A 0 c] 65)).alloc (.cells #[.int .i64 0] 3) := ⟨_, rfl⟩
  have HW3 := Lib.hid hw3
  have hb3 : Below w1.heap.size w1 w3 := by rw [hw3]; exact ((Below.refl _ _).alloc (Nat.le_refl _) _).alloc (by simp) _
  have hT3 : Blk' w3 w1.heap.size 65 #[.int .i64 8, .int .i64 0, .int .i64 (-1), .int .i64 (-1), .slice A 0 c] := by rw [hw3]; exact (Blk'.new w1 _ _).alloc _
  have hN3 : Blk' w3 (w1.heap.size + 1) 3 #[.int .i64 0] := by rw [hw3]; exact Blk'.new' _ _ _ (by simp)
  have HT3 := Lib.hid hT3
  have HN3 := Lib.hid hN3
  have HBw := Lib.hid (bthen HB1.out hb3 HB1.out.size)
  have hc : c ≤ 9223372036854775807 := by omega
  have hEn : Els w3 (fun b => b = w1.heap.size + 1) [(0 : Int)] (some ⟨w1.heap.size + 1, 0, none⟩) :=
    els_of_blk [[.int .i64 0]] hN3 (by simp) rfl (fun i x cs hi hd => by
      match i with
      | 0 => simp at hi hd; subst hi; subst hd; exact ⟨rfl, i64_0⟩
      | i + 1 => simp at hi) rfl
  have HEn := Lib.hid hEn
  clear hb1 hO hnil hv hop hlev hl1 hl2 hw3 hb3 hT3 hN3 hEn
  go_wp2_with fail
  rw [← HW3.out]
  refine (climb_any ⟨8, 0, -1, -1, []⟩ [0] A (some ⟨w1.heap.size + 1, 0, none⟩) c 1 (fun _ => False) _ w3 ⟨i64_8, i64_0, i64_m1, i64_m1⟩ (Nat.zero_le _) hc Els.nilA (fun _ h => h.elim) HEn.out (fun b hb => by have h1 := HN3.out.lt; have h2 : b = w1.heap.size + 1 := hb; omega) (by decide) (by decide) (Nat.le_refl _) (by omega) _ par_zero).mono ?_
  rintro e w4 hret
  obtain ⟨A4, c4, rfl, _, _, h4, h5, _, hb4⟩ : ∃ (A : Option Addr) (c : Nat), e = .returned (.tuple #[.agg #[.int .i64 0, .int .i64 0, .slice A 1 c], .int .i64 0, .int .i64 0]) ∧ I64 0 ∧ I64 0 ∧ 1 ≤ c ∧ c ≤ 9223372036854775807 ∧ Els w4 (fun b => w3.heap.size ≤ b ∧ b < w4.heap.size) [leafT 0] A ∧ Below w3.heap.size w3 w4 := by
    have h := hret
    simp only [RetC] at h
    rw [if_neg (by simp)] at h
    exact h
  obtain ⟨w5, hw5⟩ : ∃ w5 : World, w5 = w4.alloc (.cells #[.int .i64 0, .int .i64 0, .slice A4 1 c4] 27) := ⟨_, rfl⟩
  have HW5 := Lib.hid hw5
  have hb5 : Below w4.heap.size w4 w5 := by rw [hw5]; exact (Below.refl _ _).alloc (Nat.le_refl _) _
  have hX5 : Blk' w5 w4.heap.size 27 #[.int .i64 0, .int .i64 0, .slice A4 1 c4] := by rw [hw5]; exact Blk'.new w4 _ _
  have hT4 := HT3.out.below hb4 HT3.out.lt
  have hT5 := hT4.below hb5 hT4.lt
  have hb4w := bthen HBw.out hb4 HBw.out.size
  have HB5 := Lib.hid (bthen hb4w hb5 hb4w.size)
  have t0 : w4.cell? ⟨w1.heap.size, 0, none⟩ = some (.int .i64 8) := hT4.cell 0
  have t1 : w4.cell? ⟨w1.heap.size, 1, none⟩ = some (.int .i64 0) := hT4.cell 1
  have t2 : w4.cell? ⟨w1.heap.size, 2, none⟩ = some (.int .i64 (-1)) := hT4.cell 2
  have t3 : w4.cell? ⟨w1.heap.size, 3, none⟩ = some (.int .i64 (-1)) := hT4.cell 3
  have t4 : w4.cell? ⟨w1.heap.size, 4, none⟩ = some (.slice A 0 c) := hT4.cell 4
  have zT4 : w1.heap.size < w4.heap.size := hT4.lt
  have HX5 := Lib.hid hX5
  clear hret hb4 hb4w hT4 hT5 hb5 hw5 hX5 h4 h5
  go_wp2_with fail
  rw [← HW5.out]
  refine (climb_any ⟨8, 0, -1, -1, []⟩ [] A none c 0 (fun _ => False) (fun _ => False) w5 ⟨i64_8, i64_0, i64_m1, i64_m1⟩ (Nat.zero_le _) hc Els.nilA (fun _ h => h.elim) Els.nilA (fun _ h => h.elim) (by decide) (by decide) (Nat.le_refl _) (by omega) _ par_none).mono ?_
  rintro e w6 ⟨rfl, hb6⟩
  have hX6 := HX5.out.below hb6 HX5.out.lt
  have x2 : w6.cell? ⟨w4.heap.size, 2, none⟩ = some (.slice A4 1 c4) := hX6.cell 2
  have zX6 : w4.heap.size < w6.heap.size := hX6.lt
  have HB6 := Lib.hid (bthen HB5.out hb6 HB5.out.size)
  clear hb6 hX6 t0 t1 t2 t3 t4
  go_wp2_with fail
  go_ret
  exact ⟨rfl, HB6.out.alloc HB6.out.size _⟩
end Go.Proofs.YtjdojogjogenkaaDoor
