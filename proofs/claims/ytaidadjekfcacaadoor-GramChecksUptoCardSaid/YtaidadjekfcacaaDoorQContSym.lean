/- Contracts: slices.Index and slices.Contains at symbols. -/
import Derived.Test.YtaidadjekfcacaaDoorQp1
import Derived.Deep.QuietTactic
import Derived.BigQuiet
import Derived.Deep.Cut
namespace Go.Proofs.YtaidadjekfcacaaDoor
open Go.RowKit
set_option linter.unusedVariables false

set_option maxRecDepth 100000 in
set_option maxHeartbeats 1000000 in
theorem indexSymZ_any (A : Option Addr) (c : Nat) (xs : List Sym) (s : Sym) (S : Nat → Prop) (w : World) (hm : xs.length ≤ 9223372036854775807) (hA : Els w S xs A) :
    Calls Tryd.prog 145 #[.slice A xs.length c, .agg #[.bool s.term, .int .i64 s.n]] w fun e w' => e = .returned (.int .i64 (idxI (fun x => s == x) xs)) ∧ Below w.heap.size w w' := by
  obtain ⟨st, sn⟩ := s
  dsimp only
  obtain ⟨w1, hw1⟩ : ∃ w1 : World, w1 = w.alloc (.cells #[.bool st, .int .i64 sn] 64) := ⟨_, rfl⟩
  have HW1 := Lib.hid hw1
  have hb1 : Below w.heap.size w w1 := by rw [hw1]; exact (Below.refl _ _).alloc (Nat.le_refl _) _
  have hs1 : Blk' w1 w.heap.size 64 #[.bool st, .int .i64 sn] := by rw [hw1]; exact Blk'.new w _ _
  have HB1 := Lib.hid hb1
  have HS1 := Lib.hid hs1
  have HA := Lib.hid hA
  clear hw1 hb1 hs1 hA
  go_enter Tryd.func145, Tryd.ntmps145
  go_wp2_with fail
  rw [← HW1.out]
  go_loopw [8] (fun i wr => ∃ k : Nat, k ≤ xs.length ∧ i = .int .i64 k ∧ Hid (∀ y ∈ xs.take k, ((⟨st, sn⟩ : Sym) == y) = false) ∧ Below w1.heap.size w1 wr) (fun i _ => xs.length - (intOf i).toNat)
  case atStart => exact ⟨0, Nat.zero_le _, rfl, Lib.hid (by simp), Below.refl _ _⟩
  case round =>
    obtain ⟨wo, hwo⟩ : ∃ wo : World, wo = wr := ⟨_, rfl⟩
    subst hwo
    obtain ⟨k, hk, rfl, HN, hb⟩ := hrel
    have HB := Lib.hid hb
    have HBt := Lib.hid (bthen HB1.out hb HB1.out.size)
    have hSo := HS1.out.below hb HS1.out.lt
    have s0 : wo.cell? ⟨w.heap.size, 0, none⟩ = some (.bool st) := hSo.cell 0
    have s1 : wo.cell? ⟨w.heap.size, 1, none⟩ = some (.int .i64 sn) := hSo.cell 1
    have zS := hSo.lt
    clear hb hSo
    by_cases hlt : k < xs.length
    · obtain ⟨x, hx⟩ := get_some hlt
      obtain ⟨b, o, rfl, _, hbs, hi, hc0, hc1⟩ := (HA.out.below HBt.out).sym hx
      have HX := Lib.hid hx
      clear hx
      have hk0 : (0 : Int) ≤ (k : Int) := by omega
      have hk1 : (k : Int) < (xs.length : Int) := by omega
      obtain ⟨xt, xz⟩ := x
      dsimp only at *
      by_cases ht : st = xt
      · subst ht
        by_cases hz : sn = xz
        · subst hz
          have E0 := Lib.hid (idxI_hit (p := fun x => (⟨st, sn⟩ : Sym) == x) HX.out (by simp) HN.out)
          go_wp2_with fail
          go_quiet (fail)
          go_wp2
          go_ret
          exact ⟨ret_int E0.out.symm, bdrewN HBt.out⟩
        · have hq : (sn == xz) = false := by simp [hz]
          have HE := Lib.hid (show ((⟨st, sn⟩ : Sym) == ⟨st, xz⟩) = false by simp [hz])
          clear hz
          go_wp2_with fail
          go_quiet (fail)
          go_wp2
          go_roundw
          case rel => exact ⟨k + 1, hlt, by go_num, Lib.hid (by
            rw [take_snoc HX.out]
            intro y hy
            rcases List.mem_append.1 hy with h | h
            · exact HN.out y h
            · rw [List.mem_singleton] at h; subst h; exact HE.out), bdrewN HB.out⟩
          case measure => simp [intOf]; omega
      · have hq : (st == xt) = false := by simp [ht]
        have HE := Lib.hid (show ((⟨st, sn⟩ : Sym) == ⟨xt, xz⟩) = false by simp [ht])
        clear ht
        go_wp2_with fail
        go_quiet (fail)
        go_wp2
        go_roundw
        case rel => exact ⟨k + 1, hlt, by go_num, Lib.hid (by
          rw [take_snoc HX.out]
          intro y hy
          rcases List.mem_append.1 hy with h | h
          · exact HN.out y h
          · rw [List.mem_singleton] at h; subst h; exact HE.out), bdrewN HB.out⟩
        case measure => simp [intOf]; omega
    · have E0 := Lib.hid (show idxI (fun x => (⟨st, sn⟩ : Sym) == x) xs = -1 from idxI_none (by have h := HN.out; rwa [List.take_of_length_le (by omega)] at h))
      have hk2 : ¬ (k : Int) < (xs.length : Int) := by omega
      go_wp2
      go_ret
      exact ⟨ret_int E0.out.symm, HBt.out⟩

theorem any_eq_memS (xs : List Sym) (z : Sym) : xs.any (fun x => z == x) = decide (z ∈ xs) := by
  rw [Bool.eq_iff_iff]; simp [List.any_eq_true]
set_option maxRecDepth 100000 in
theorem containsSymZ_any (A : Option Addr) (n c : Nat) (xs : List Sym) (s : Sym) (S : Nat → Prop) (w : World) (hn : n = xs.length) (hm : xs.length ≤ 9223372036854775807) (hA : Els w S xs A) :
    Calls Tryd.prog 105 #[.slice A n c, .agg #[.bool s.term, .int .i64 s.n]] w fun e w' => e = .returned (.bool (decide (s ∈ xs))) ∧ Below w.heap.size w w' := by
  subst hn
  obtain ⟨st, sn⟩ := s
  dsimp only
  obtain ⟨w1, hw1⟩ : ∃ w1 : World, w1 = w.alloc (.cells #[.bool st, .int .i64 sn] 64) := ⟨_, rfl⟩
  have HW1 := Lib.hid hw1
  have hb1 : Below w.heap.size w w1 := by rw [hw1]; exact (Below.refl _ _).alloc (Nat.le_refl _) _
  have hs1 : Blk' w1 w.heap.size 64 #[.bool st, .int .i64 sn] := by rw [hw1]; exact Blk'.new w _ _
  have s0 : w1.cell? ⟨w.heap.size, 0, none⟩ = some (.bool st) := hs1.cell 0
  have s1 : w1.cell? ⟨w.heap.size, 1, none⟩ = some (.int .i64 sn) := hs1.cell 1
  have zS := hs1.lt
  have HB1 := Lib.hid hb1
  have HA := Lib.hid (hA.below hb1)
  clear hw1 hb1 hs1 hA
  go_enter Tryd.func105, Tryd.ntmps105
  go_upto_region 1 with (fail)
  rw [← HW1.out]
  go_wp2_with fail
  refine (indexSymZ_any A c xs ⟨st, sn⟩ S _ hm HA.out).mono ?_
  rintro e w2 ⟨rfl, hb2⟩
  have HB2 := Lib.hid (bthen HB1.out hb2 HB1.out.size)
  clear hb2
  go_wp2
  go_ret
  exact ⟨ret_bool ((idxI_nonneg _ _).trans (any_eq_memS xs ⟨st, sn⟩)), HB2.out⟩
end Go.Proofs.YtaidadjekfcacaaDoor
