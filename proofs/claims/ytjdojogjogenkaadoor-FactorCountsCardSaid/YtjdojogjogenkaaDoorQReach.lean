/- Contract: core.Reach: where the parts end that a list of symbols derives. -/
import Derived.Test.YtjdojogjogenkaaDoorQp1
import Derived.Test.YtjdojogjogenkaaDoorQw1
import Derived.Deep.Cut
import Derived.IntWalk
namespace Go.Proofs.YtjdojogjogenkaaDoor
open Go.RowKit
set_option linter.unusedVariables false
theorem pow13 {k : Nat} (h : k ≤ 13) : 2 ^ k ≤ 8192 := by
 have := Nat.pow_le_pow_right (show 0 < 2 by omega) h
 simpa using this
theorem small_mod (N : Nat) (h : N ≤ 8192) : (N : Int) % 4294967296 = (N : Int) := by omega
theorem bit_le {m x j : Nat} (hx : x < 2 ^ (m + 1)) (h : x.testBit j = true) : j ≤ m := by
 apply Nat.le_of_not_lt
 intro hlt
 have h1 : x < 2 ^ j := Nat.lt_of_lt_of_le hx (Nat.pow_le_pow_right (by omega) hlt)
 rw [Nat.testBit_lt_two_pow h1] at h
 cases h
def ReO (ws : List Int) (T : List (List Nat)) (l : List Sym) (from_ : Nat) (w : World) (a i : Value) (wr : World) : Prop :=
 ∃ j x : Nat, j ≤ l.length ∧ i = .int .i64 j ∧ a = .int .u32 (x : Int) ∧ x < 2 ^ (ws.length + 1) ∧ (∀ k, x.testBit k = true ↔ Way ws T (l.take j) from_ k) ∧ Below w.heap.size w wr
def ReI (ws : List Int) (T : List (List Nat)) (s : Sym) (at_ : Nat) (w : World) (a i : Value) (wr : World) : Prop :=
 ∃ y z : Nat, a = .int .u32 (y : Int) ∧ i = .int .u32 (z : Int) ∧ y < 2 ^ (ws.length + 1) ∧ z < 2 ^ (ws.length + 1) ∧ (∀ k, z.testBit k = true → at_.testBit k = true) ∧ (∀ k, y.testBit k = true ↔ ∃ p, at_.testBit p = true ∧ z.testBit p = false ∧ Hop ws T s p k) ∧ Below w.heap.size w wr
set_option maxRecDepth 100000 in
set_option maxHeartbeats 4000000 in
theorem reach_any (ws : List Int) (T : List (List Nat)) (l : List Sym) (n from_ bf : Nat) (bs : List Nat) (A B : Option Addr) (c cw : Nat) (S Sw : Nat → Prop) (w : World)
  (hm : ws.length ≤ 12) (hR : RowsU w bf bs (ws.length + 1) n n T) (hT : MskS ws.length n T) (hn : n ≤ 1000) (hll : l.length ≤ 1000) (hA : Els w S l A) (hB : Els w Sw ws B)
  (hl : ∀ s ∈ l, 0 ≤ s.n ∧ (s.term = false → s.n < (n : Int))) (hf : from_ ≤ ws.length) (hTab : Tab32 w) :
  Calls Tryd.prog 136 #[.slice B ws.length cw, .slice (some ⟨bf, 0, none⟩) n n, .slice A l.length c, .int .i64 (from_ : Int)] w fun e w' => ∃ x : Nat, e = .returned (.int .u32 (x : Int)) ∧ x < 2 ^ (ws.length + 1) ∧ (∀ k, x.testBit k = true ↔ Way ws T l from_ k) ∧ Below w.heap.size w w' := by
 have HR := Lib.hid hR
 have HT := Lib.hid hT
 have HA := Lib.hid hA
 have HB := Lib.hid hB
 have HL := Lib.hid hl
 have HTab := Lib.hid hTab
 have hm9 : (ws.length : Int) ≤ 12 := by omega
 have hf0 : (0 : Int) ≤ (from_ : Int) := by omega
 have hf9 : (from_ : Int) ≤ (ws.length : Int) := by omega
 have hll9 : l.length ≤ 9223372036854775807 := by omega
 have hpf : 2 ^ from_ ≤ 8192 := pow13 (by omega)
 have HP : Hid (2 ^ from_ < 2 ^ (ws.length + 1)) := Lib.hid (Nat.pow_lt_pow_right (by omega) (by omega))
 have hbf := hR.bflt
 have hpm : 2 ^ (ws.length + 1) ≤ 8192 := pow13 (by omega)
 have HPM := Lib.hid hpm
 clear hR hT hA hB hl hTab hpm
 go_enter Tryd.func136, Tryd.ntmps136
 go_wp2_with fail
 go_loopw [9, 19] (fun a i wr => ReO ws T l from_ w a i wr) (fun _ i _ => l.length - (intOf i).toNat)
 case atStart =>
  refine ⟨0, 2 ^ from_, Nat.zero_le _, rfl, ?_, HP.out, fun k => ?_, Below.refl _ _⟩
  ·congr 1
   have e : (2 : Int) ^ from_ = ((2 ^ from_ : Nat) : Int) := by push_cast; rfl
   rw [e]
   exact small_mod _ hpf
  ·rw [Nat.testBit_two_pow]
   show decide (from_ = k) = true ↔ from_ = k
   simp
 case round =>
  obtain ⟨wo, hwo⟩ : ∃ wo : World, wo = wr := ⟨_, rfl⟩
  subst hwo
  obtain ⟨j, x0, hj, rfl, rfl, hx, hway, hb⟩ := hrel
  have HX := Lib.hid hx
  have HWay := Lib.hid hway
  have HBo := Lib.hid hb
  have hx13 : x0 < 8192 := by have := HPM.out; omega
  clear hx hway hb
  by_cases hlt : j < l.length
  ·obtain ⟨s, hs⟩ := get_some hlt
   obtain ⟨bs1, os1, rfl, hSs, hbs1, hsi, hsc0, hsc1⟩ := (HA.out.below HBo.out).sym hs
   have hsl := HL.out s (List.mem_of_getElem? hs)
   have HS := Lib.hid hs
   obtain ⟨st, sn⟩ := s
   dsimp only at hsi hsc0 hsc1 hsl
   have hj0 : (0 : Int) ≤ (j : Int) := by omega
   obtain ⟨v0, rfl⟩ : ∃ v0 : Nat, sn = (v0 : Int) := ⟨sn.toNat, by omega⟩
   obtain ⟨ws1, hws1⟩ : ∃ ws1 : World, ws1 = wo.alloc (.cells #[.bool st, .int .i64 (v0 : Int)] 40) := ⟨_, rfl⟩
   have HW1 := Lib.hid hws1
   have hb1 : Below wo.heap.size wo ws1 := by rw [hws1]; exact (Below.refl _ _).alloc (Nat.le_refl _) _
   have HB1 := Lib.hid (bthen HBo.out hb1 HBo.out.size)
   have HSb : Hid (Blk' ws1 wo.heap.size 40 #[.bool st, .int .i64 (v0 : Int)]) := Lib.hid (by rw [hws1]; exact Blk'.new _ _ _)
   clear hs hws1 hb1 hsi
   go_upto_region 5 with (fail)
   rw [← HW1.out]
   clear hsc0 hsc1
   go_wp2_with fail
   go_loopw [12, 13] (fun a i wr => ReI ws T ⟨st, (v0 : Int)⟩ x0 ws1 a i wr) (fun _ i _ => (intOf i).toNat)
   case atStart => exact ⟨0, x0, rfl, rfl, Nat.two_pow_pos _, HX.out, (fun k h => h), (fun k => ⟨fun h => by simp at h, fun ⟨p, h1, h2, _⟩ => by rw [h1] at h2; cases h2⟩), Below.refl _ _⟩
   case round =>
    obtain ⟨wz, hwz⟩ : ∃ wz : World, wz = wr := ⟨_, rfl⟩
    subst hwz
    obtain ⟨y, z, rfl, rfl, hy, hz, hzx, hyk, hbz⟩ := hrel
    have HY := Lib.hid hy
    have HZ := Lib.hid hz
    have HZX := Lib.hid hzx
    have HYK := Lib.hid hyk
    have HBz := Lib.hid hbz
    have hy13 : y < 8192 := by have := HPM.out; omega
    have hz13 : z < 8192 := by have := HPM.out; omega
    have hSz := HSb.out.below hbz HSb.out.lt
    have c0 : wz.cell? ⟨wo.heap.size, 0, none⟩ = some (.bool st) := hSz.cell 0
    have c1 : wz.cell? ⟨wo.heap.size, 1, none⟩ = some (.int .i64 (v0 : Int)) := hSz.cell 1
    have zS : wo.heap.size < wz.heap.size := hSz.lt
    have HBwz := Lib.hid (bthen HB1.out hbz HB1.out.size)
    have HTz := Lib.hid (HTab.out.below HBwz.out HTab.out.1)
    clear hy hz hzx hyk hbz hSz
    by_cases hz0 : z = 0
    ·have HN : Hid (∀ k, y.testBit k = true ↔ Way ws T (l.take (j + 1)) from_ k) := Lib.hid (fun k => by
      rw [take_snoc HS.out, Way.snoc, HYK.out k, hz0]
      constructor
      ·rintro ⟨p, h1, _, h3⟩
       exact ⟨p, (HWay.out p).1 h1, h3⟩
      ·rintro ⟨p, h1, h3⟩
       exact ⟨p, (HWay.out p).2 h1, by simp, h3⟩)
     subst hz0
     go_wp2
     go_roundw
     case rel => exact ⟨j + 1, y, hlt, by go_num, rfl, HY.out, HN.out, HBwz.out⟩
     case measure => simp [intOf]; omega
    ·obtain ⟨p, hp⟩ : ∃ p, p = Lib.ctz 32 z := ⟨_, rfl⟩
     obtain ⟨q1, q2, q3⟩ := low_bit hz0 (show z < 2 ^ 32 by omega)
     rw [← hp] at q1 q2
     have hpx := HZX.out p q1
     have hpm : p ≤ ws.length := bit_le HX.out hpx
     obtain ⟨u, hu⟩ : ∃ u, u = z &&& (z - 1) := ⟨_, rfl⟩
     have HU := Lib.hid hu
     rw [← hu] at q2 q3
     have HQ := Lib.hid (And.intro hp (And.intro q1 (And.intro q2 q3)))
     have hz0i : ¬ (z : Int) = 0 := by omega
     have hsub : ((z : Int) - 1) % 4294967296 = ((z - 1 : Nat) : Int) := by omega
     have hand : bits .and .u32 (z : Int) ((z : Int) - 1) = (u : Int) := by rw [show (z : Int) - 1 = ((z - 1 : Nat) : Int) by omega, u32_and_nat z (z - 1) (by omega) (by omega), hu]
     have hp0 : (0 : Int) ≤ (p : Int) := by omega
     have hp9 : (p : Int) ≤ 12 := by omega
     have HUn : Hid (∀ k, u.testBit k = true → x0.testBit k = true) := Lib.hid (fun k hk => by
      rw [q2, Bool.and_eq_true] at hk
      exact HZX.out k hk.1)
     have HUl : Hid (u < 2 ^ (ws.length + 1)) := Lib.hid (Nat.lt_trans q3 HZ.out)
     have HStep : Hid (∀ (y' : Nat) (M : Nat), (∀ k, y'.testBit k = (y.testBit k || M.testBit k)) → hopM ws T ⟨st, (v0 : Int)⟩ p = M → ∀ k, y'.testBit k = true ↔ ∃ p, x0.testBit p = true ∧ u.testBit p = false ∧ Hop ws T ⟨st, (v0 : Int)⟩ p k) := Lib.hid (fun y' M h1 h2 k => by
      rw [h1, Bool.or_eq_true, HYK.out k]
      constructor
      ·rintro (⟨p', a1, a2, a3⟩ | h3)
       ·exact ⟨p', a1, by rw [q2, a2]; rfl, a3⟩
       ·exact ⟨p, hpx, by rw [q2]; simp, by unfold Hop; rw [h2]; exact h3⟩
      ·rintro ⟨p', a1, a2, a3⟩
       by_cases e : p' = p
       ·subst e
        unfold Hop at a3
        rw [h2] at a3
        exact .inr a3
       ·refine .inl ⟨p', a1, ?_, a3⟩
        rw [q2] at a2
        simpa [e] using a2)
     clear q1 q2 q3 hpx hu hp
     go_wp2_with fail
     refine (tz_any z (by omega) hz0 wz HTz.out).mono ?_
     rintro e w' ⟨rfl, rfl⟩
     rw [← HQ.out.1]
     clear hz0
     cases st
     ·have hv9 : (v0 : Int) < (n : Int) := hsl.2 rfl
      have hvn : v0 < n := by omega
      have hRz := Lib.hid (HR.out.below HBwz.out)
      obtain ⟨br, hbr⟩ := get_some (show v0 < bs.length by rw [hRz.out.blen]; exact hvn)
      obtain ⟨row, hrow⟩ := get_some (show v0 < T.length by rw [HT.out.len]; exact hvn)
      have hBr := hRz.out.rows v0 br row hbr hrow
      obtain ⟨v, hv⟩ := get_some (show p < row.length by rw [hBr.2]; omega)
      have d0 : wz.cell? ⟨bf, v0, none⟩ = some (.slice (some ⟨br, 0, none⟩) (ws.length + 1) (ws.length + 1)) := hRz.out.outer v0 br hbr
      have d1 : wz.cell? ⟨br, p, none⟩ = some (.int .u32 (v : Int)) := (hBr.1.cell _).trans (ucells_get hv)
      have hmsk : mskAt T v0 p = v := by unfold mskAt; rw [List.getD_eq_getElem?_getD (l := T), hrow]; simp only [Option.getD_some]; rw [List.getD_eq_getElem?_getD, hv]; rfl
      have hv13 : v < 2 ^ (ws.length + 1) := by rw [← hmsk]; exact HT.out.low _ _
      have hv14 : v < 8192 := by have := HPM.out; omega
      have hor : bits .or .u32 (y : Int) (v : Int) = ((y ||| v : Nat) : Int) := u32_or_nat y v (by omega) (by omega)
      have HN := Lib.hid (HStep.out (y ||| v) v (fun k => Nat.testBit_or _ _ _) (by unfold hopM; rw [if_neg (by simp)]; simpa using hmsk))
      have HNl : Hid (y ||| v < 2 ^ (ws.length + 1)) := Lib.hid (or_lt HY.out hv13)
      have hpw : (p : Int) < (ws.length : Int) + 1 := by omega
      clear hbr hrow hBr hv hmsk hv13
      go_wp2
      go_roundw
      case rel => exact ⟨y ||| v, u, by first | rfl | simp, rfl, HNl.out, HUl.out, HUn.out, HN.out, HBz.out⟩
      case measure => have := HQ.out.2.2.2; simp [intOf]; omega
     ·by_cases hpl : p < ws.length
      ·obtain ⟨cw1, hcw⟩ := get_some hpl
       obtain ⟨bw, ow, rfl, hSw, hbw, hwi, hwc⟩ := (HB.out.below HBwz.out).int hcw
       have hpl9 : (p : Int) < (ws.length : Int) := by omega
       by_cases he : cw1 = (v0 : Int)
       ·have hM : hopM ws T ⟨true, (v0 : Int)⟩ p = 2 ^ (p + 1) := by unfold hopM; rw [if_pos rfl, if_pos (by rw [hcw, he])]
        have hp13 : 2 ^ (p + 1) ≤ 8192 := pow13 (by omega)
        have HNl : Hid (y ||| 2 ^ (p + 1) < 2 ^ (ws.length + 1)) := Lib.hid (or_lt HY.out (Nat.pow_lt_pow_right (by omega) (by omega)))
        have hor : bits .or .u32 (y : Int) (2 ^ (p + 1) % 4294967296) = ((y ||| 2 ^ (p + 1) : Nat) : Int) := by
         have e : (2 : Int) ^ (p + 1) % 4294967296 = ((2 ^ (p + 1) : Nat) : Int) := by
          have e2 : (2 : Int) ^ (p + 1) = ((2 ^ (p + 1) : Nat) : Int) := by push_cast; rfl
          rw [e2]; exact small_mod _ hp13
         rw [e, u32_or_nat y _ (by omega) (by omega)]
        have HN := Lib.hid (HStep.out (y ||| 2 ^ (p + 1)) (2 ^ (p + 1)) (fun k => Nat.testBit_or _ _ _) hM)
        have hpp : IntKind.i64.wrap ((p : Int) + 1) = (p : Int) + 1 := IntWalk.i64_in _ (by omega)
        subst he
        clear hcw hM hp13
        go_wp2_with fail
        refine wp_region_noPanic ?_
        refine wp_region_held_drew (S := (fun w' => w'.cell? ⟨wo.heap.size, 1, none⟩ = some (.int .i64 (v0 : Int)) ∧ w'.cell? ⟨bw, ow + p, none⟩ = some (.int .i64 (v0 : Int)))) (by kernel_rfl) ?he (fun hHeld => ?be)
        case he => ((try dsimp only); go_keep)
        refine take_run (i := 0) (v := ?ve0) rfl (by kernel_rfl) (by kernel_rfl) (by kernel_rfl) (fun _ _ _ h => h) (by rfl) ?ye0 (by assumption) ?re0
        case ye0 => (intro w hSw; (try dsimp only at hSw); go_simp; try with_reducible rfl)
        try simp only [Act.put, List.setIfInBounds_toArray, List.set_cons_zero, List.set_cons_succ]
        refine take_run (i := 1) (v := ?ve1) rfl (by kernel_rfl) (by kernel_rfl) (by kernel_rfl) (fun _ _ _ h => h) (by rfl) ?ye1 (by assumption) ?re1
        case ye1 => (intro w hSw; (try dsimp only at hSw); go_simp; try with_reducible rfl)
        try simp only [Act.put, List.setIfInBounds_toArray, List.set_cons_zero, List.set_cons_succ]
        refine take_run (i := 2) (v := ?ve2) rfl (by kernel_rfl) (by kernel_rfl) (by kernel_rfl) (fun _ _ _ h => h) (by rfl) ?ye2 (by assumption) ?re2
        case ye2 => (intro w hSw; (try dsimp only at hSw); go_simp; try with_reducible rfl)
        try simp only [Act.put, List.setIfInBounds_toArray, List.set_cons_zero, List.set_cons_succ]
        refine take_run (i := 3) (v := ?ve3) rfl (by kernel_rfl) (by kernel_rfl) (by kernel_rfl) (fun _ _ _ h => h) (by rfl) ?ye3 (by assumption) ?re3
        case ye3 => (intro w hSw; (try dsimp only at hSw); go_simp; try with_reducible rfl)
        try simp only [Act.put, List.setIfInBounds_toArray, List.set_cons_zero, List.set_cons_succ]
        refine take_run (i := 4) (v := ?ve4) rfl (by kernel_rfl) (by kernel_rfl) (by kernel_rfl) (fun _ _ _ h => h) (by rfl) ?ye4 (by assumption) ?re4
        case ye4 => (intro w hSw; (try dsimp only at hSw); go_simp; try with_reducible rfl)
        try simp only [Act.put, List.setIfInBounds_toArray, List.set_cons_zero, List.set_cons_succ]
        refine take_run (i := 5) (v := ?ve5) rfl (by kernel_rfl) (by kernel_rfl) (by kernel_rfl) (fun _ _ _ h => h) (by rfl) ?ye5 (by assumption) ?re5
        case ye5 => (intro w hSw; (try dsimp only at hSw); go_simp; try with_reducible rfl)
        try simp only [Act.put, List.setIfInBounds_toArray, List.set_cons_zero, List.set_cons_succ]
        refine take_run (i := 6) (v := ?ve6) rfl (by kernel_rfl) (by kernel_rfl) (by kernel_rfl) (fun _ _ _ h => h) (by rfl) ?ye6 (by assumption) ?re6
        case ye6 => (intro w hSw; (try dsimp only at hSw); go_simp; try with_reducible rfl)
        try simp only [Act.put, List.setIfInBounds_toArray, List.set_cons_zero, List.set_cons_succ]
        refine take_run (i := 7) (v := ?ve7) rfl (by kernel_rfl) (by kernel_rfl) (by kernel_rfl) (fun _ _ _ h => h) (by rfl) ?ye7 (by assumption) ?re7
        case ye7 => (intro w hSw; (try dsimp only at hSw); go_simp; try with_reducible rfl)
        try simp only [Act.put, List.setIfInBounds_toArray, List.set_cons_zero, List.set_cons_succ]
        refine take_run (i := 8) (v := ?ve8) rfl (by kernel_rfl) (by kernel_rfl) (by kernel_rfl) (fun _ _ _ h => h) (by rfl) ?ye8 (by assumption) ?re8
        case ye8 => (intro w hSw; (try dsimp only at hSw); go_simp; try with_reducible rfl)
        try simp only [Act.put, List.setIfInBounds_toArray, List.set_cons_zero, List.set_cons_succ]
        refine take_run (i := 9) (v := ?ve9) rfl (by kernel_rfl) (by kernel_rfl) (by kernel_rfl) (fun _ _ _ h => h) (by rfl) ?ye9 (by assumption) ?re9
        case ye9 => (intro w hSw; (try dsimp only at hSw); go_simp; try with_reducible rfl)
        try simp only [Act.put, List.setIfInBounds_toArray, List.set_cons_zero, List.set_cons_succ]
        refine take_run (i := 10) (v := ?ve10) rfl (by kernel_rfl) (by kernel_rfl) (by kernel_rfl) (fun _ _ _ h => h) (by rfl) ?ye10 (by assumption) ?re10
        case ye10 => (intro w hSw; (try dsimp only at hSw); go_simp; try with_reducible rfl)
        try simp only [Act.put, List.setIfInBounds_toArray, List.set_cons_zero, List.set_cons_succ]
        refine take_run (i := 11) (v := ?ve11) rfl (by kernel_rfl) (by kernel_rfl) (by kernel_rfl) (fun _ _ _ h => h) (by rfl) ?ye11 (by assumption) ?re11
        case ye11 => (intro w hSw; (try dsimp only at hSw); go_simp; try with_reducible rfl)
        try simp only [Act.put, List.setIfInBounds_toArray, List.set_cons_zero, List.set_cons_succ]
        refine take_run (i := 12) (v := ?ve12) rfl (by kernel_rfl) (by kernel_rfl) (by kernel_rfl) (fun _ _ _ h => h) (by rfl) ?ye12 (by assumption) ?re12
        case ye12 => (intro w hSw; (try dsimp only at hSw); go_simp; try with_reducible rfl)
        try simp only [Act.put, List.setIfInBounds_toArray, List.set_cons_zero, List.set_cons_succ]
        refine take_run (i := 13) (v := ?ve13) rfl (by kernel_rfl) (by kernel_rfl) (by kernel_rfl) (fun _ _ _ h => h) (by rfl) ?ye13 (by assumption) ?re13
        case ye13 => (intro w hSw; (try dsimp only at hSw); go_simp; try with_reducible rfl)
        try simp only [Act.put, List.setIfInBounds_toArray, List.set_cons_zero, List.set_cons_succ]
        refine wpAnyH_done (by kernel_rfl) ?_ _
        refine NoPanic.normal ?_
        go_wp2
        go_roundw
        case rel => exact ⟨_, u, rfl, rfl, HNl.out, HUl.out, HUn.out, HN.out, HBz.out.drew⟩
        case measure => have := HQ.out.2.2.2; simp [intOf]; omega
       ·have hM : hopM ws T ⟨true, (v0 : Int)⟩ p = 0 := by unfold hopM; rw [if_pos rfl, if_neg (by rw [hcw]; simpa using he)]
        have HN := Lib.hid (HStep.out y 0 (fun k => by simp) hM)
        have hce : (cw1 == (v0 : Int)) = false := by simpa using he
        clear hcw hM he
        go_wp2_with fail
        refine wp_region_noPanic ?_
        refine wp_region_held_drew (S := (fun w' => w'.cell? ⟨wo.heap.size, 1, none⟩ = some (.int .i64 (v0 : Int)) ∧ w'.cell? ⟨bw, ow + p, none⟩ = some (.int .i64 cw1))) (by kernel_rfl) ?hn (fun hHeld => ?bn)
        case hn => ((try dsimp only); go_keep)
        refine take_run (i := 0) (v := ?vn0) rfl (by kernel_rfl) (by kernel_rfl) (by kernel_rfl) (fun _ _ _ h => h) (by rfl) ?yn0 (by assumption) ?rn0
        case yn0 => (intro w hSw; (try dsimp only at hSw); go_simp; try with_reducible rfl)
        try simp only [Act.put, List.setIfInBounds_toArray, List.set_cons_zero, List.set_cons_succ]
        refine take_run (i := 1) (v := ?vn1) rfl (by kernel_rfl) (by kernel_rfl) (by kernel_rfl) (fun _ _ _ h => h) (by rfl) ?yn1 (by assumption) ?rn1
        case yn1 => (intro w hSw; (try dsimp only at hSw); go_simp; try with_reducible rfl)
        try simp only [Act.put, List.setIfInBounds_toArray, List.set_cons_zero, List.set_cons_succ]
        refine take_run (i := 2) (v := ?vn2) rfl (by kernel_rfl) (by kernel_rfl) (by kernel_rfl) (fun _ _ _ h => h) (by rfl) ?yn2 (by assumption) ?rn2
        case yn2 => (intro w hSw; (try dsimp only at hSw); go_simp; try with_reducible rfl)
        try simp only [Act.put, List.setIfInBounds_toArray, List.set_cons_zero, List.set_cons_succ]
        refine take_run (i := 3) (v := ?vn3) rfl (by kernel_rfl) (by kernel_rfl) (by kernel_rfl) (fun _ _ _ h => h) (by rfl) ?yn3 (by assumption) ?rn3
        case yn3 => (intro w hSw; (try dsimp only at hSw); go_simp; try with_reducible rfl)
        try simp only [Act.put, List.setIfInBounds_toArray, List.set_cons_zero, List.set_cons_succ]
        refine take_run (i := 4) (v := ?vn4) rfl (by kernel_rfl) (by kernel_rfl) (by kernel_rfl) (fun _ _ _ h => h) (by rfl) ?yn4 (by assumption) ?rn4
        case yn4 => (intro w hSw; (try dsimp only at hSw); go_simp; try with_reducible rfl)
        try simp only [Act.put, List.setIfInBounds_toArray, List.set_cons_zero, List.set_cons_succ]
        refine take_run (i := 5) (v := ?vn5) rfl (by kernel_rfl) (by kernel_rfl) (by kernel_rfl) (fun _ _ _ h => h) (by rfl) ?yn5 (by assumption) ?rn5
        case yn5 => (intro w hSw; (try dsimp only at hSw); go_simp; try with_reducible rfl)
        try simp only [Act.put, List.setIfInBounds_toArray, List.set_cons_zero, List.set_cons_succ]
        refine take_run (i := 6) (v := ?vn6) rfl (by kernel_rfl) (by kernel_rfl) (by kernel_rfl) (fun _ _ _ h => h) (by rfl) ?yn6 (by assumption) ?rn6
        case yn6 => (intro w hSw; (try dsimp only at hSw); go_simp; try with_reducible rfl)
        try simp only [Act.put, List.setIfInBounds_toArray, List.set_cons_zero, List.set_cons_succ]
        refine take_run (i := 7) (v := ?vn7) rfl (by kernel_rfl) (by kernel_rfl) (by kernel_rfl) (fun _ _ _ h => h) (by rfl) ?yn7 (by assumption) ?rn7
        case yn7 => (intro w hSw; (try dsimp only at hSw); go_simp; try with_reducible rfl)
        try simp only [Act.put, List.setIfInBounds_toArray, List.set_cons_zero, List.set_cons_succ]
        refine take_run (i := 8) (v := ?vn8) rfl (by kernel_rfl) (by kernel_rfl) (by kernel_rfl) (fun _ _ _ h => h) (by rfl) ?yn8 (by assumption) ?rn8
        case yn8 => (intro w hSw; (try dsimp only at hSw); go_simp; try with_reducible rfl)
        try simp only [Act.put, List.setIfInBounds_toArray, List.set_cons_zero, List.set_cons_succ]
        refine take_run (i := 9) (v := ?vn9) rfl (by kernel_rfl) (by kernel_rfl) (by kernel_rfl) (fun _ _ _ h => h) (by rfl) ?yn9 (by assumption) ?rn9
        case yn9 => (intro w hSw; (try dsimp only at hSw); go_simp; try with_reducible rfl)
        try simp only [Act.put, List.setIfInBounds_toArray, List.set_cons_zero, List.set_cons_succ]
        refine take_run (i := 10) (v := ?vn10) rfl (by kernel_rfl) (by kernel_rfl) (by kernel_rfl) (fun _ _ _ h => h) (by rfl) ?yn10 (by assumption) ?rn10
        case yn10 => (intro w hSw; (try dsimp only at hSw); go_simp; try with_reducible rfl)
        try simp only [Act.put, List.setIfInBounds_toArray, List.set_cons_zero, List.set_cons_succ]
        refine take_run (i := 11) (v := ?vn11) rfl (by kernel_rfl) (by kernel_rfl) (by kernel_rfl) (fun _ _ _ h => h) (by rfl) ?yn11 (by assumption) ?rn11
        case yn11 => (intro w hSw; (try dsimp only at hSw); go_simp; try with_reducible rfl)
        try simp only [Act.put, List.setIfInBounds_toArray, List.set_cons_zero, List.set_cons_succ]
        refine take_run (i := 12) (v := ?vn12) rfl (by kernel_rfl) (by kernel_rfl) (by kernel_rfl) (fun _ _ _ h => h) (by rfl) ?yn12 (by assumption) ?rn12
        case yn12 => (intro w hSw; (try dsimp only at hSw); go_simp; try with_reducible rfl)
        try simp only [Act.put, List.setIfInBounds_toArray, List.set_cons_zero, List.set_cons_succ]
        refine take_run (i := 13) (v := ?vn13) rfl (by kernel_rfl) (by kernel_rfl) (by kernel_rfl) (fun _ _ _ h => h) (by rfl) ?yn13 (by assumption) ?rn13
        case yn13 => (intro w hSw; (try dsimp only at hSw); go_simp; try with_reducible rfl)
        try simp only [Act.put, List.setIfInBounds_toArray, List.set_cons_zero, List.set_cons_succ]
        refine wpAnyH_done (by kernel_rfl) ?_ _
        refine NoPanic.normal ?_
        go_wp2
        go_roundw
        case rel => exact ⟨y, u, rfl, rfl, HY.out, HUl.out, HUn.out, HN.out, HBz.out.drew⟩
        case measure => have := HQ.out.2.2.2; simp [intOf]; omega
      ·have hM : hopM ws T ⟨true, (v0 : Int)⟩ p = 0 := by unfold hopM; rw [if_pos rfl, if_neg (by rw [List.getElem?_eq_none (by omega)]; simp)]
       have HN := Lib.hid (HStep.out y 0 (fun k => by simp) hM)
       have hpl9 : ¬ (p : Int) < (ws.length : Int) := by omega
       have dpl : decide (p < ws.length) = false := decide_eq_false hpl
       clear hM
       go_wp2_with fail
       refine wp_region_noPanic ?_
       refine wp_region_held_drew (S := (fun w' => w'.cell? ⟨wo.heap.size, 1, none⟩ = some (.int .i64 (v0 : Int)))) (by kernel_rfl) ?hb (fun hHeld => ?bb)
       case hb => ((try dsimp only); go_keep)
       refine take_run (i := 0) (v := ?vb0) rfl (by kernel_rfl) (by kernel_rfl) (by kernel_rfl) (fun _ _ _ h => h) (by rfl) ?yb0 (by assumption) ?rb0
       case yb0 => (intro w hSw; (try dsimp only at hSw); go_simp; try with_reducible rfl)
       try simp only [Act.put, List.setIfInBounds_toArray, List.set_cons_zero, List.set_cons_succ]
       refine take_run (i := 1) (v := ?vb1) rfl (by kernel_rfl) (by kernel_rfl) (by kernel_rfl) (fun _ _ _ h => h) (by rfl) ?yb1 (by assumption) ?rb1
       case yb1 => (intro w hSw; (try dsimp only at hSw); go_simp; try with_reducible rfl)
       try simp only [Act.put, List.setIfInBounds_toArray, List.set_cons_zero, List.set_cons_succ]
       refine take_run (i := 2) (v := ?vb2) rfl (by kernel_rfl) (by kernel_rfl) (by kernel_rfl) (fun _ _ _ h => h) (by rfl) ?yb2 (by assumption) ?rb2
       case yb2 => (intro w hSw; (try dsimp only at hSw); go_simp; try with_reducible rfl)
       try simp only [Act.put, List.setIfInBounds_toArray, List.set_cons_zero, List.set_cons_succ]
       refine take_run (i := 3) (v := ?vb3) rfl (by kernel_rfl) (by kernel_rfl) (by kernel_rfl) (fun _ _ _ h => h) (by rfl) ?yb3 (by assumption) ?rb3
       case yb3 => (intro w hSw; (try dsimp only at hSw); go_simp; try with_reducible rfl)
       try simp only [Act.put, List.setIfInBounds_toArray, List.set_cons_zero, List.set_cons_succ]
       refine take_run (i := 4) (v := ?vb4) rfl (by kernel_rfl) (by kernel_rfl) (by kernel_rfl) (fun _ _ _ h => h) (by rfl) ?yb4 (by assumption) ?rb4
       case yb4 => (intro w hSw; (try dsimp only at hSw); go_simp; try with_reducible rfl)
       try simp only [Act.put, List.setIfInBounds_toArray, List.set_cons_zero, List.set_cons_succ]
       refine take_bar (i := 5) rfl (by kernel_rfl) (by kernel_rfl) (by kernel_rfl) (fun _ _ _ h => h) (by rfl) (by assumption) ?_
       try simp only [Act.put, List.setIfInBounds_toArray, List.set_cons_zero, List.set_cons_succ]
       refine take_bar (i := 6) rfl (by kernel_rfl) (by kernel_rfl) (by kernel_rfl) (fun _ _ _ h => h) (by rfl) (by assumption) ?_
       try simp only [Act.put, List.setIfInBounds_toArray, List.set_cons_zero, List.set_cons_succ]
       refine take_bar (i := 7) rfl (by kernel_rfl) (by kernel_rfl) (by kernel_rfl) (fun _ _ _ h => h) (by rfl) (by assumption) ?_
       try simp only [Act.put, List.setIfInBounds_toArray, List.set_cons_zero, List.set_cons_succ]
       refine take_bar (i := 8) rfl (by kernel_rfl) (by kernel_rfl) (by kernel_rfl) (fun _ _ _ h => h) (by rfl) (by assumption) ?_
       try simp only [Act.put, List.setIfInBounds_toArray, List.set_cons_zero, List.set_cons_succ]
       refine take_bar (i := 9) rfl (by kernel_rfl) (by kernel_rfl) (by kernel_rfl) (fun _ _ _ h => h) (by rfl) (by assumption) ?_
       try simp only [Act.put, List.setIfInBounds_toArray, List.set_cons_zero, List.set_cons_succ]
       refine take_bar (i := 10) rfl (by kernel_rfl) (by kernel_rfl) (by kernel_rfl) (fun _ _ _ h => h) (by rfl) (by assumption) ?_
       try simp only [Act.put, List.setIfInBounds_toArray, List.set_cons_zero, List.set_cons_succ]
       refine take_bar (i := 11) rfl (by kernel_rfl) (by kernel_rfl) (by kernel_rfl) (fun _ _ _ h => h) (by rfl) (by assumption) ?_
       try simp only [Act.put, List.setIfInBounds_toArray, List.set_cons_zero, List.set_cons_succ]
       refine take_run (i := 12) (v := ?vb12) rfl (by kernel_rfl) (by kernel_rfl) (by kernel_rfl) (fun _ _ _ h => h) (by rfl) ?yb12 (by assumption) ?rb12
       case yb12 => (intro w hSw; (try dsimp only at hSw); go_simp; try with_reducible rfl)
       try simp only [Act.put, List.setIfInBounds_toArray, List.set_cons_zero, List.set_cons_succ]
       refine take_run (i := 13) (v := ?vb13) rfl (by kernel_rfl) (by kernel_rfl) (by kernel_rfl) (fun _ _ _ h => h) (by rfl) ?yb13 (by assumption) ?rb13
       case yb13 => (intro w hSw; (try dsimp only at hSw); go_simp; try with_reducible rfl)
       try simp only [Act.put, List.setIfInBounds_toArray, List.set_cons_zero, List.set_cons_succ]
       refine wpAnyH_done (by kernel_rfl) ?_ _
       refine NoPanic.normal ?_
       go_wp2
       go_roundw
       case rel => exact ⟨y, u, rfl, rfl, HY.out, HUl.out, HUn.out, HN.out, HBz.out.drew⟩
       case measure => have := HQ.out.2.2.2; simp [intOf]; omega
  ·have hjj : j = l.length := by omega
   have HN : Hid (∀ k, x0.testBit k = true ↔ Way ws T l from_ k) := Lib.hid (fun k => by have h := HWay.out k; rw [hjj, List.take_of_length_le (Nat.le_refl _)] at h; exact h)
   go_wp2
   go_ret
   exact ⟨x0, rfl, HX.out, HN.out, HBo.out⟩
end Go.Proofs.YtjdojogjogenkaaDoor
