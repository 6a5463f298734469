/- Contract: normal.makeForm: the normal form of a valid grammar. -/
import Derived.Test.YtecofoilghdedaaDoorQDivide
import Derived.Test.YtecofoilghdedaaDoorQNormClose
import Derived.Test.YtecofoilghdedaaDoorQp1
import Derived.Test.YtecofoilghdedaaDoorQNormNul1
import Derived.Test.YtecofoilghdedaaDoorQNormQ
import Derived.Deep.LoopGhost
namespace Go.Proofs.YtecofoilghdedaaDoor
open Go.RowKit
set_option linter.unusedVariables false

/-- The form of a valid grammar: P its block, MB the map of the pairs, NB the row of what becomes nothing, bf and bs the rows of what leads to what; all made behind H. -/
structure FormM (w : World) (H m n : Nat) (gs : Int) (rs : List Rule) (A : Option Addr) (c P MB NB bf cf : Nat) (bs : List Nat) (nb : List Bool) (f : List (List Bool)) : Prop where
  ptr : ∃ AR cr AP cp, Blk' w P 111 #[.int .i64 (m : Int), .int .i64 (n : Int), .int .i64 gs, .slice A rs.length c, .slice AR (restL n rs).length cr, .int .i64 (leafN n rs : Int), .int .i64 ((leafN n rs + m : Nat) : Int), .slice AP (psN n rs).length cp, .slice (some ⟨NB, 0, none⟩) (leafN n rs + m) (leafN n rs + m), .slice (some ⟨bf, 0, none⟩) (leafN n rs + m) cf, .map (some MB)] ∧
    Els w (fun b => H ≤ b ∧ b < w.heap.size ∧ b ≠ P) (restL n rs) AR ∧ (restL n rs).length ≤ cr ∧ cr ≤ 9223372036854775807 ∧ Els w (fun b => H ≤ b ∧ b < w.heap.size ∧ b ≠ P) (psN n rs) AP ∧ (psN n rs).length ≤ cp ∧ cp ≤ 9223372036854775807
  nul : Blk' w NB 4 (bcells nb)
  nrow : NulRow (leafN n rs + m) (psN n rs) nb
  rows : RowsM w bf bs (leafN n rs + m) (leafN n rs + m) cf f
  gt : ∀ a b, a < leafN n rs + m → b < leafN n rs + m → (Gt f a b ↔ Leads (leafN n rs + m) (psN n rs) a b)
  pairs : ∃ nm, PairM w MB nm (fun l a b => 0 ≤ l ∧ l < ((leafN n rs + m : Nat) : Int) ∧ PairIn (leafN n rs + m) (psN n rs) (psN n rs) l a b)
  ge : ∀ b ∈ P :: MB :: NB :: bf :: bs, H ≤ b
def RetForm (m n : Nat) (gs : Int) (rs : List Rule) (A : Option Addr) (c : Nat) (w : World) (en : Ending) (w' : World) : Prop :=
  ∃ P MB NB bf cf bs nb f, en = .returned (.pointer (some ⟨P, 0, none⟩)) ∧ FormM w' w.heap.size m n gs rs A c P MB NB bf cf bs nb f ∧ Below w.heap.size w w'

set_option maxRecDepth 100000 in
set_option maxHeartbeats 8000000 in
theorem makeForm_any (gs : Int) (m n : Nat) (rs : List Rule) (A : Option Addr) (c : Nat) (S : Nat → Prop) (w : World) (hv : ValidG ⟨(m : Int), (n : Int), gs, rs⟩) (hlc : rs.length ≤ c) (hc : c ≤ 9223372036854775807) (hA : Els w S rs A) (hS : ∀ b, S b → b < w.heap.size) :
    Calls Tryd.prog 47 #[.agg #[.int .i64 (m : Int), .int .i64 (n : Int), .int .i64 gs, .slice A rs.length c]] w (RetForm m n gs rs A c w) := by
  have HA := Lib.hid hA
  have HS := Lib.hid hS
  have HV := Lib.hid hv
  have hrs := hv.len
  dsimp only at hrs
  have hn1 := hv.n1
  have hn10 := hv.n10
  dsimp only at hn1 hn10
  have hmm := @run_makeMap Tryd.prog
  clear hA hS hv
  go_enter Tryd.func47, Tryd.ntmps47
  go_upto_region 2 with (fail)
  obtain ⟨FB, hFB⟩ : ∃ b, b = w.heap.size + 1 + 1 + 1 := ⟨_, rfl⟩
  obtain ⟨P, hP⟩ : ∃ b, b = w.heap.size + 1 + 1 := ⟨_, rfl⟩
  obtain ⟨MB, hMB⟩ : ∃ b, b = w.heap.size + 1 := ⟨_, rfl⟩
  obtain ⟨M0, hM0⟩ : ∃ b, b = w.heap.size := ⟨_, rfl⟩
  rw [← hFB, ← hP, ← hMB, ← hM0]
  obtain ⟨w1, hw1⟩ : ∃ w1 : World, w1 = (((w.alloc (.cells #[.int .i64 (m : Int), .int .i64 (n : Int), .int .i64 gs, .slice A rs.length c] 25)).alloc (.map #[] 0)).alloc (.cells #[.int .i64 (m : Int), .int .i64 (n : Int), .int .i64 gs, .slice A rs.length c, .slice none 0 0, .int .i64 0, .int .i64 (n : Int), .slice none 0 0, .slice none 0 0, .slice none 0 0, .map (some MB)] 111)).alloc (.cells #[.pointer (some ⟨P, 0, none⟩)] 105) := ⟨_, rfl⟩
  rw [← hw1]
  have hb1 : Below w.heap.size w w1 := by rw [hw1]; exact ((((Below.refl _ _).alloc (Nat.le_refl _) _).alloc (by simp) _).alloc (by simp; omega) _).alloc (by simp; omega) _
  have HG1 : Hid (Blk' w1 M0 25 #[.int .i64 (m : Int), .int .i64 (n : Int), .int .i64 gs, .slice A rs.length c]) := Lib.hid (by rw [hw1, hM0]; exact (((Blk'.new _ _ _).alloc _).alloc _).alloc _)
  have HM1 : Hid (PairM w1 MB 0 (fun _ _ _ => False)) := Lib.hid (by
    have e : MB = (w.alloc (.cells #[.int .i64 (m : Int), .int .i64 (n : Int), .int .i64 gs, .slice A rs.length c] 25)).heap.size := by rw [hMB]; simp
    rw [hw1, e]
    exact (PairM.made _).below (((Below.refl _ _).alloc (Nat.le_refl _) _).alloc (by simp) _))
  have HP1 : Hid (Blk' w1 P 111 #[.int .i64 (m : Int), .int .i64 (n : Int), .int .i64 gs, .slice A rs.length c, .slice none 0 0, .int .i64 0, .int .i64 (n : Int), .slice none 0 0, .slice none 0 0, .slice none 0 0, .map (some MB)]) := Lib.hid (by rw [hw1]; exact (Blk'.new' _ _ _ (by rw [hP]; simp)).alloc _)
  have HF1 : Hid (Blk' w1 FB 105 #[.pointer (some ⟨P, 0, none⟩)]) := Lib.hid (by rw [hw1]; exact Blk'.new' _ _ _ (by rw [hFB]; simp))
  have HZ : Hid (M0 = w.heap.size ∧ MB = w.heap.size + 1 ∧ P = w.heap.size + 2 ∧ FB = w.heap.size + 3 ∧ w1.heap.size = w.heap.size + 4) := Lib.hid ⟨hM0, hMB, hP, hFB, by rw [hw1]; simp⟩
  have HE1 := Lib.hid (HA.out.below hb1)
  have HB1 := Lib.hid hb1
  clear hb1 hw1 hM0 hMB hP hFB
  have g3 : w1.cell? ⟨M0, 3, none⟩ = some (.slice A rs.length c) := HG1.out.cell 3
  have zG : M0 < w1.heap.size := HG1.out.lt
  go_wp2_with fail
  clear g3 zG
  go_loopw [23] (fun i wr => ∃ (k : Nat) (vr : Value), k ≤ rs.length ∧ i = .int .i64 k ∧ Blk' wr P 111 #[.int .i64 (m : Int), .int .i64 (n : Int), .int .i64 gs, .slice A rs.length c, vr, .int .i64 0, .int .i64 ((n + moreN (rs.take k) : Nat) : Int), .slice none 0 0, .slice none 0 0, .slice none 0 0, .map (some MB)] ∧ Own wr (fun _ => False) w1.heap.size 22 vr (restL n (rs.take k)) ∧ Kept (fun b => b = P) w1 wr) (fun i _ => rs.length - (intOf i).toNat)
  case atStart => exact ⟨0, _, Nat.zero_le _, rfl, HP1.out, Own.nil _ _ _ _, Kept.refl _ _⟩
  case round =>
    obtain ⟨wo, hwo⟩ : ∃ wo : World, wo = wr := ⟨_, rfl⟩
    subst hwo
    obtain ⟨k, vr, hk, rfl, hPo, hOo, hKo⟩ := hrel
    have HPo := Lib.hid hPo
    have HOo := Lib.hid hOo
    have HKo := Lib.hid hKo
    clear hPo hOo hKo
    by_cases hkn : k < rs.length
    · obtain ⟨q, hq⟩ := get_some hkn
      have hEo := HE1.out.kept HKo.out (fun b hb e => by have := HS.out b hb; have := HZ.out; omega)
      obtain ⟨bq, oq, Aq, cq, rfl, hSb, hbs, hqi, hrc, hcq, hEr, hc0, hc1⟩ := hEo.rule hq
      have HQ := Lib.hid hq
      have hqv := HV.out.rules q (List.mem_of_getElem? hq)
      obtain ⟨ql, qr⟩ := q
      dsimp only at hqi hrc hcq hEr hc0 hc1 hqv
      have hq4 : qr.length ≤ 4 := hqv.2.2.1
      have hk0 : (0 : Int) ≤ (k : Int) := by omega
      have hk9 : (k : Int) < (rs.length : Int) := by omega
      obtain ⟨n0, hn0⟩ : ∃ n0, n0 = n + moreN (rs.take k) := ⟨_, rfl⟩
      have HN0 := Lib.hid hn0
      have hn0b : n0 ≤ 74 := by
        have h1 := moreN_take_le rs k
        have h2 := moreN_le (fun r hr => (HV.out.rules r hr).2.2.1)
        dsimp only at h2
        omega
      obtain ⟨w2, hw2⟩ : ∃ w2 : World, w2 = wo.alloc (.cells #[.int .i64 ql, .slice Aq qr.length cq] 52) := ⟨_, rfl⟩
      have HW2 := Lib.hid hw2
      have hb2 : Below wo.heap.size wo w2 := by rw [hw2]; exact (Below.refl _ _).alloc (Nat.le_refl _) _
      have HX2 : Hid (Blk' w2 wo.heap.size 52 #[.int .i64 ql, .slice Aq qr.length cq]) := Lib.hid (by rw [hw2]; exact Blk'.new _ _ _)
      have HZ2 : Hid (w2.heap.size = wo.heap.size + 1) := Lib.hid (by rw [hw2]; simp)
      have HP2 : Hid (Blk' w2 P 111 #[.int .i64 (m : Int), .int .i64 (n : Int), .int .i64 gs, .slice (some ⟨bq, oq, none⟩) rs.length c, vr, .int .i64 0, .int .i64 (n0 : Int), .slice none 0 0, .slice none 0 0, .slice none 0 0, .map (some MB)]) := Lib.hid (by rw [HN0.out]; exact HPo.out.below hb2 HPo.out.lt)
      have HO2 := Lib.hid (HOo.out.toX.below hb2 (Nat.le_refl _))
      have HF2 := Lib.hid ((HF1.out.kept HKo.out (by have := HZ.out; omega)).below hb2 (Nat.lt_of_lt_of_le HF1.out.lt HKo.out.size))
      have HB2 := Lib.hid hb2
      have hwr : IntKind.i64.wrap ((qr.length : Int) - 2) = (qr.length : Int) - 2 := IntWalk.i64_in _ (by omega)
      clear hw2 hb2 hq hqv hEo hEr hqi hn0
      go_upto_region 6 with (fail)
      rw [← HW2.out]
      have x1 : w2.cell? ⟨wo.heap.size, 1, none⟩ = some (.slice Aq qr.length cq) := HX2.out.cell 1
      have zX : wo.heap.size < w2.heap.size := HX2.out.lt
      clear hSb hbs hc0 hc1 HW2
      go_wp2_with fail
      clear x1 zX hwr
      go_loopw [6, 31] (fun l i wr => ∃ (d : Nat) (v : Value), d ≤ qr.length - 2 ∧ l = v ∧ i = .int .i64 d ∧ Blk' wr P 111 #[.int .i64 (m : Int), .int .i64 (n : Int), .int .i64 gs, .slice (some ⟨bq, oq, none⟩) rs.length c, vr, .int .i64 0, .int .i64 ((n0 : Int) + (d : Int)), .slice none 0 0, .slice none 0 0, .slice none 0 0, .map (some MB)] ∧ Own wr (fun _ => False) w2.heap.size 3 v (fromN n0 d) ∧ Kept (fun b => b = P) w2 wr) (fun _ i _ => (qr.length - 2) - (intOf i).toNat)
      case atStart => exact ⟨0, _, Nat.zero_le _, rfl, rfl, (by simpa using HP2.out), Own.nil _ _ _ _, Kept.refl _ _⟩
      case round =>
        obtain ⟨wi, hwi⟩ : ∃ wi : World, wi = wr := ⟨_, rfl⟩
        subst hwi
        obtain ⟨d, v, hd, ev, rfl, hPi, hOi, hKi⟩ := hrel
        replace ev := ev.symm
        subst ev
        have HPi := Lib.hid hPi
        have HOi := Lib.hid hOi
        have HKi := Lib.hid hKi
        have HFi := Lib.hid (HF2.out.kept hKi (by have := HZ.out; omega))
        clear hPi hOi hKi
        by_cases hdn : d + 2 < qr.length
        · have e0 : (d : Int) < (qr.length : Int) - 2 := by omega
          have f0 : wi.cell? ⟨FB, 0, none⟩ = some (.pointer (some ⟨P, 0, none⟩)) := HFi.out.cell 0
          have p6 : wi.cell? ⟨P, 6, none⟩ = some (.int .i64 ((n0 : Int) + (d : Int))) := HPi.out.cell 6
          have zF : FB < wi.heap.size := HFi.out.lt
          have zP : P < wi.heap.size := HPi.out.lt
          have HRd : Hid (Dat.rd (wi.alloc (.cells #[.int .i64 ((n0 : Int) + (d : Int))] 3)) (OwnT (fun _ => False) w2.heap.size v (wi.alloc (.cells #[.int .i64 ((n0 : Int) + (d : Int))] 3))) ((n0 : Int) + (d : Int)) [.int .i64 ((n0 : Int) + (d : Int))]) := Lib.hid ⟨rfl, by omega, by omega⟩
          have HCp : Hid (((fromN n0 d).length + 1) * 8 ≤ 140737488355328 ∧ (fromN n0 d).length + 1 ≤ 9223372036854775807 ∧ w2.heap.size ≤ (wi.alloc (.cells #[.int .i64 ((n0 : Int) + (d : Int))] 3)).heap.size) := Lib.hid ⟨by rw [fromN_len]; omega, by rw [fromN_len]; omega, by have := HKi.out.size; simp; omega⟩
          have hwr2 : IntKind.i64.wrap ((n0 : Int) + (d : Int) + 1) = (n0 : Int) + (d : Int) + 1 := IntWalk.i64_in _ (by omega)
          have HN4 : Hid (∀ g, v.ownBlock = some g → w2.heap.size ≤ g ∧ g < wi.heap.size) := Lib.hid (fun g hg => HOi.out.block g hg)
          go_wp2_with (at_builtin; (refine wpList_own1 _ rfl _ _ elemInt rfl rfl (HOi.out.alloc (.cells #[.int .i64 ((n0 : Int) + (d : Int))] 3)) ((n0 : Int) + (d : Int)) [.int .i64 ((n0 : Int) + (d : Int))] rfl (At.new _ _ _) HRd.out HCp.out.1 HCp.out.2.1 HCp.out.2.2 ?_); (intro v' w4 hO4 hg4 hat4); (have HO4 := Lib.hid hO4); (have hKg : Kept (fun g => v.ownBlock = some g) (wi.alloc (.cells #[.int .i64 ((n0 : Int) + (d : Int))] 3)) w4 := Kept.of_grown (X := fun g => v.ownBlock = some g) hg4 (fun g hg => hg)); (have HKg := Lib.hid hKg); (have HP4 := Lib.hid ((HPi.out.alloc (.cells #[.int .i64 ((n0 : Int) + (d : Int))] 3)).kept hKg (fun h => (by have := HN4.out P h; have := HZ.out; have := HZ2.out; have := HKo.out.size; omega)))); (have HF4 := Lib.hid ((HFi.out.alloc (.cells #[.int .i64 ((n0 : Int) + (d : Int))] 3)).kept hKg (fun h => (by have := HN4.out FB h; have := HZ.out; have := HZ2.out; have := HKo.out.size; omega)))); (have f4 := HF4.out.cell 0); (have p4 := HP4.out.cell 6); (have q4 := HP4.out.frozen 6); (have zF4 := HF4.out.lt); (have zP4 := HP4.out.lt); (simp at f4 p4); (clear hO4 hg4 hat4 hKg))
          have HO9 : Hid (Own (w4.setCell ⟨P, 6, none⟩ (.int .i64 ((n0 : Int) + (d : Int) + 1))) (fun _ => False) w2.heap.size 3 v' (fromN n0 (d + 1))) := Lib.hid (by
            have h := HO4.out.setCell (p := ⟨P, 6, none⟩) (fun h => by have := (HO4.out.block _ h).1; have := HZ.out; have := HZ2.out; have := HKo.out.size; dsimp only at *; omega) (fun h => by rcases h with h | h; exact h; have := HZ.out; have := HZ2.out; have := HKo.out.size; dsimp only at *; omega) (.int .i64 ((n0 : Int) + (d : Int) + 1))
            rw [fromN_snoc, show (((n0 + d : Nat)) : Int) = (n0 : Int) + (d : Int) from by omega]
            exact h)
          have HK9 : Hid (Kept (fun b => b = P) w2 (w4.setCell ⟨P, 6, none⟩ (.int .i64 ((n0 : Int) + (d : Int) + 1)))) := Lib.hid (((HKi.out.alloc (.cells #[.int .i64 ((n0 : Int) + (d : Int))] 3)).later HKg.out (fun g hg => .inr (HN4.out g hg).1)).setCell (p := ⟨P, 6, none⟩) (.inl rfl) _)
          have HP9 : Hid (Blk' (w4.setCell ⟨P, 6, none⟩ (.int .i64 ((n0 : Int) + (d : Int) + 1))) P 111 #[.int .i64 (m : Int), .int .i64 (n : Int), .int .i64 gs, .slice (some ⟨bq, oq, none⟩) rs.length c, vr, .int .i64 0, .int .i64 ((n0 : Int) + ((d + 1 : Nat) : Int)), .slice none 0 0, .slice none 0 0, .slice none 0 0, .map (some MB)]) := Lib.hid (by
            have h := HP4.out.set_ 6 (.int .i64 ((n0 : Int) + (d : Int) + 1))
            rw [show (n0 : Int) + ((d + 1 : Nat) : Int) = (n0 : Int) + (d : Int) + 1 from by omega]
            exact h)
          go_roundw
          case rel => exact ⟨d + 1, _, by omega, rfl, by go_num, HP9.out, HO9.out, HK9.out⟩
          case measure => simp [intOf]; omega
        · have hdd : d = qr.length - 2 := by omega
          have HD := Lib.hid hdd
          obtain ⟨Av, cv, ev, hlv, hcv, _⟩ := HOi.out.form
          rw [fromN_len] at ev hlv
          have HO1 := Lib.hid ((HO2.out.kept HKi.out (fun b hb => ⟨fun h => by have := (HOo.out.block b h).1; have := HZ.out; omega, fun h => by have h1 := h.1.resolve_left id; have := HZ.out; omega⟩)).own (S := fun _ => False) (fun b hb => hb.1))
          have HVv := Lib.hid (own_ints HOi.out)
          have HNv : Hid (∀ g, v.ownBlock = some g → w2.heap.size ≤ g ∧ g < wi.heap.size) := Lib.hid (fun g hg => HOi.out.block g hg)
          have HNr : Hid (∀ g, vr.ownBlock = some g → w1.heap.size ≤ g ∧ g < wo.heap.size) := Lib.hid (fun g hg => HOo.out.block g hg)
          subst ev
          have e0 : ¬ (d : Int) < (qr.length : Int) - 2 := by omega
          have f0 : wi.cell? ⟨FB, 0, none⟩ = some (.pointer (some ⟨P, 0, none⟩)) := HFi.out.cell 0
          have p4 : wi.cell? ⟨P, 4, none⟩ = some vr := HPi.out.cell 4
          have zF : FB < wi.heap.size := HFi.out.lt
          have zP : P < wi.heap.size := HPi.out.lt
          clear hdd
          go_wp2_with fail
          refine wp_region_noPanic ?_
          refine stage_start (S := (fun w' => w'.cell? ⟨FB, 0, none⟩ = some (.pointer (some ⟨P, 0, none⟩)) ∧ w'.cell? ⟨P, 4, none⟩ = some vr)) 10 (by kernel_rfl) ?ha (fun hHeld => ?ba)
          case ha => ((try dsimp only); go_keep)
          refine st_run (i := 0) (v := ?va0) rfl (by kernel_rfl) (by kernel_rfl) (by kernel_rfl) (by kernel_rfl) (fun _ _ _ h => h) (by rfl) ?ya0 (by assumption) ?ra0
          case ya0 => (intro w hSw; (try dsimp only at hSw); go_simp; try with_reducible rfl)
          try simp only [Act.put, List.setIfInBounds_toArray, List.set_cons_zero, List.set_cons_succ]
          refine st_run (i := 1) (v := ?va1) rfl (by kernel_rfl) (by kernel_rfl) (by kernel_rfl) (by kernel_rfl) (fun _ _ _ h => h) (by rfl) ?ya1 (by assumption) ?ra1
          case ya1 => (intro w hSw; (try dsimp only at hSw); go_simp; try with_reducible rfl)
          try simp only [Act.put, List.setIfInBounds_toArray, List.set_cons_zero, List.set_cons_succ]
          refine st_pure (i := 2) (v := ?va2) rfl (by kernel_rfl) (by kernel_rfl) (by kernel_rfl) (by kernel_rfl) (fun _ _ _ h => h) (by rfl) ?ya2 (.inl (by assumption)) ?ra2
          case ya2 => (intro w; go_simp; try with_reducible rfl)
          try simp only [Act.put, List.setIfInBounds_toArray, List.set_cons_zero, List.set_cons_succ]
          refine st_pure (i := 3) (v := ?va3) rfl (by kernel_rfl) (by kernel_rfl) (by kernel_rfl) (by kernel_rfl) (fun _ _ _ h => h) (by rfl) ?ya3 (.inl (by assumption)) ?ra3
          case ya3 => (intro w; go_simp; try with_reducible rfl)
          try simp only [Act.put, List.setIfInBounds_toArray, List.set_cons_zero, List.set_cons_succ]
          refine st_run (i := 4) (v := ?va4) rfl (by kernel_rfl) (by kernel_rfl) (by kernel_rfl) (by kernel_rfl) (fun _ _ _ h => h) (by rfl) ?ya4 (by assumption) ?ra4
          case ya4 => (intro w hSw; (try dsimp only at hSw); go_simp; try with_reducible rfl)
          try simp only [Act.put, List.setIfInBounds_toArray, List.set_cons_zero, List.set_cons_succ]
          refine st_pure (i := 5) (v := ?va5) rfl (by kernel_rfl) (by kernel_rfl) (by kernel_rfl) (by kernel_rfl) (fun _ _ _ h => h) (by rfl) ?ya5 (.inl (by assumption)) ?ra5
          case ya5 => (intro w; go_simp; try with_reducible rfl)
          try simp only [Act.put, List.setIfInBounds_toArray, List.set_cons_zero, List.set_cons_succ]
          refine st_one (i := 6) rfl (by kernel_rfl) (by rfl) (fun Kq hK => ?_)
          go_simp
          obtain ⟨w4, hw4⟩ : ∃ w4 : World, w4 = (wi.alloc (.cells #[.slice Av d cv] 22)).drew := ⟨_, rfl⟩
          have hb4 : Below wi.heap.size wi w4 := by rw [hw4]; exact ((Below.refl _ _).alloc (Nat.le_refl _) _).drew
          have HB4 := Lib.hid hb4
          have HAt4 : Hid (At w4 wi.heap.size 0 [.slice Av d cv]) := Lib.hid (by rw [hw4]; exact At.new wi [.slice Av d cv] 22)
          have HZ4 : Hid (w4.heap.size = wi.heap.size + 1) := Lib.hid (by rw [hw4]; simp)
          rw [← hw4]
          clear hw4 hb4
          have f0b : w4.cell? ⟨FB, 0, none⟩ = some (.pointer (some ⟨P, 0, none⟩)) := (HB4.out.cell (p := ⟨FB, 0, none⟩) zF).trans f0
          have p4b : w4.cell? ⟨P, 4, none⟩ = some vr := (HB4.out.cell (p := ⟨P, 4, none⟩) zP).trans p4
          refine hK.out _ _ ?ha6 (fun hHeld => ?ra6)
          case ha6 => ((try dsimp only); go_keep)
          clear hK Kq
          try simp only [Act.put, List.setIfInBounds_toArray, List.set_cons_zero, List.set_cons_succ]
          refine st_one (i := 7) rfl (by kernel_rfl) (by rfl) (fun Kq hK => ?_)
          have HO4 := Lib.hid (HO1.out.below HB4.out (Nat.le_refl _))
          have HRd : Hid (Dat.rd w4 (OwnT (fun _ => False) w1.heap.size vr w4) (fromN n0 d) [.slice Av d cv]) := Lib.hid (rd_of_slice (HVv.out.keep (fun p _ hp => HB4.out.cell hp) (fun b hb => ⟨.inr (by have := (HNv.out b hb).1; have := HKo.out.size; have := HZ2.out; omega), fun h => by have := (HNv.out b hb).1; have := (HNr.out b h).2; have := HZ2.out; omega, by have := (HNv.out b hb).2; have := HZ4.out; omega⟩)))
          have HCp : Hid (((restL n (rs.take k)).length + 1) * 24 ≤ 140737488355328 ∧ (restL n (rs.take k)).length + 1 ≤ 9223372036854775807 ∧ w1.heap.size ≤ w4.heap.size) := Lib.hid ⟨by rw [restL_len, List.length_take]; omega, by rw [restL_len, List.length_take]; omega, by have := HKi.out.size; have := HKo.out.size; have := HZ4.out; have := HZ2.out; omega⟩
          refine wp_own1 _ _ _ elemInts rfl rfl HO4.out (fromN n0 d) [.slice Av d cv] rfl HAt4.out HRd.out HCp.out.1 HCp.out.2.1 HCp.out.2.2 ?_
          intro v' w5 hO5 hg5 hat5
          obtain ⟨Aw, cw, ev, _, _, _⟩ := hO5.form
          obtain ⟨nw, hnw⟩ : ∃ nw, nw = (restL n (rs.take k) ++ [fromN n0 d]).length := ⟨_, rfl⟩
          rw [← hnw] at ev
          subst ev
          clear hnw
          have HO5 := Lib.hid hO5
          have hKg : Kept (fun g => vr.ownBlock = some g) w4 w5 := Kept.of_grown (X := fun g => vr.ownBlock = some g) hg5 (fun g hk => hk)
          have HK5 : Hid (Kept (fun b => b = P) w1 w5) := Lib.hid (((((HKo.out.below HB2.out).later HKi.out (fun b hb => .inl hb)).below HB4.out)).later hKg (fun g hg => .inr (HNr.out g hg).1))
          have hnP : ¬ vr.ownBlock = some P := fun h => by have := (HNr.out P h).1; have := HZ.out; omega
          have hnF : ¬ vr.ownBlock = some FB := fun h => by have := (HNr.out FB h).1; have := HZ.out; omega
          have HP5 := Lib.hid ((HPi.out.below HB4.out HPi.out.lt).kept hKg hnP)
          have HF5 := Lib.hid ((HFi.out.below HB4.out HFi.out.lt).kept hKg hnF)
          have f0c : w5.cell? ⟨FB, 0, none⟩ = some (.pointer (some ⟨P, 0, none⟩)) := HF5.out.cell 0
          have p4c : w5.cell? ⟨P, 4, none⟩ = some vr := HP5.out.cell 4
          have fp4 := HP5.out.frozen 4
          have zP5 : P < w5.heap.size := HP5.out.lt
          clear hO5 hg5 hat5 hKg hnP hnF
          refine hK.out _ _ ?ha7 (fun hHeld => ?ra7)
          case ha7 => ((try dsimp only); go_keep)
          clear hK Kq
          try simp only [Act.put, List.setIfInBounds_toArray, List.set_cons_zero, List.set_cons_succ]
          refine st_pure (i := 8) (v := ?va8) rfl (by kernel_rfl) (by kernel_rfl) (by kernel_rfl) (by kernel_rfl) (fun _ _ _ h => h) (by rfl) ?ya8 (.inl (by assumption)) ?ra8
          case ya8 => (intro w; go_simp; try with_reducible rfl)
          try simp only [Act.put, List.setIfInBounds_toArray, List.set_cons_zero, List.set_cons_succ]
          refine st_pure (i := 9) (v := ?va9) rfl (by kernel_rfl) (by kernel_rfl) (by kernel_rfl) (by kernel_rfl) (fun _ _ _ h => h) (by rfl) ?ya9 (.inl (by assumption)) ?ra9
          case ya9 => (intro w; go_simp; try with_reducible rfl)
          try simp only [Act.put, List.setIfInBounds_toArray, List.set_cons_zero, List.set_cons_succ]
          refine st_late (i := 10) rfl (by kernel_rfl) (by rfl) (by kernel_rfl) (fun Kq hK => ?_)
          go_simp
          refine hK.out _ _ ?_
          clear hK Kq
          try simp only [Act.put, List.setIfInBounds_toArray, List.set_cons_zero, List.set_cons_succ]
          refine wpAnyD_done (by kernel_rfl) ?_ _
          refine NoPanic.normal ?_
          have HR9 : Hid (restL n (rs.take (k + 1)) = restL n (rs.take k) ++ [fromN n0 d]) := Lib.hid (by rw [take_snoc HQ.out, restL_snoc, HN0.out, HD.out])
          have HM9 : Hid (n + moreN (rs.take (k + 1)) = n0 + d) := Lib.hid (by rw [take_snoc HQ.out, moreN_snoc, HN0.out, HD.out]; simp only [Nat.add_assoc])
          have HO9 := HO5.out.setCell (p := ⟨P, 4, none⟩) (fun h => by have := (HO5.out.block _ h).1; have := HZ.out; dsimp only at *; omega) (fun h => by rcases h with h | h; exact h; have := HZ.out; dsimp only at *; omega) (.slice Aw nw cw)
          rw [← HR9.out] at HO9
          have HP9 := HP5.out.set_ 4 (.slice Aw nw cw)
          have HK9 := HK5.out.setCell (p := ⟨P, 4, none⟩) (.inl rfl) (.slice Aw nw cw)
          have HO9 := Lib.hid HO9
          have HP9 := Lib.hid HP9
          have HK9 := Lib.hid HK9
          go_wp2_with fail
          go_roundw
          case rel => exact ⟨k + 1, _, hkn, by go_num, (by rw [HM9.out]; exact HP9.out), HO9.out, HK9.out⟩
          case measure => simp [intOf]; omega
    · have hkk : k = rs.length := by omega
      subst hkk
      rw [List.take_length] at HPo HOo
      obtain ⟨lf, hlf⟩ : ∃ lf, lf = n + moreN rs := ⟨_, rfl⟩
      rw [← hlf] at HPo
      have HLf : Hid (lf = leafN n rs) := Lib.hid hlf
      have hlf9 : lf ≤ 74 := by
        have h := leafN_le HV.out rfl
        rw [HLf.out]
        exact h
      have hm8 := HV.out.t8
      dsimp only at hm8
      have HFo := Lib.hid (HF1.out.kept HKo.out (by have := HZ.out; omega))
      have f0 : wo.cell? ⟨FB, 0, none⟩ = some (.pointer (some ⟨P, 0, none⟩)) := HFo.out.cell 0
      have p6 : wo.cell? ⟨P, 6, none⟩ = some (.int .i64 (lf : Int)) := HPo.out.cell 6
      have zF : FB < wo.heap.size := HFo.out.lt
      have zP : P < wo.heap.size := HPo.out.lt
      have p5 : wo.cell? ⟨P, 5, none⟩ = some (.int .i64 0) := HPo.out.cell 5
      have fp5 := HPo.out.frozen 5
      clear hlf hk
      go_wp2_with fail
      refine wp_region_noPanic ?_
      refine stage_start (S := (fun w' => w'.cell? ⟨FB, 0, none⟩ = some (.pointer (some ⟨P, 0, none⟩)) ∧ w'.cell? ⟨P, 6, none⟩ = some (.int .i64 (lf : Int)))) 7 (by kernel_rfl) ?hb (fun hHeld => ?bb)
      case hb => ((try dsimp only); go_keep)
      refine st_run (i := 0) (v := ?vb0) rfl (by kernel_rfl) (by kernel_rfl) (by kernel_rfl) (by kernel_rfl) (fun _ _ _ h => h) (by rfl) ?yb0 (by assumption) ?rb0
      case yb0 => (intro w hSw; (try dsimp only at hSw); go_simp; try with_reducible rfl)
      try simp only [Act.put, List.setIfInBounds_toArray, List.set_cons_zero, List.set_cons_succ]
      refine st_run (i := 1) (v := ?vb1) rfl (by kernel_rfl) (by kernel_rfl) (by kernel_rfl) (by kernel_rfl) (fun _ _ _ h => h) (by rfl) ?yb1 (by assumption) ?rb1
      case yb1 => (intro w hSw; (try dsimp only at hSw); go_simp; try with_reducible rfl)
      try simp only [Act.put, List.setIfInBounds_toArray, List.set_cons_zero, List.set_cons_succ]
      refine st_pure (i := 2) (v := ?vb2) rfl (by kernel_rfl) (by kernel_rfl) (by kernel_rfl) (by kernel_rfl) (fun _ _ _ h => h) (by rfl) ?yb2 (.inl (by assumption)) ?rb2
      case yb2 => (intro w; go_simp; try with_reducible rfl)
      try simp only [Act.put, List.setIfInBounds_toArray, List.set_cons_zero, List.set_cons_succ]
      refine st_pure (i := 3) (v := ?vb3) rfl (by kernel_rfl) (by kernel_rfl) (by kernel_rfl) (by kernel_rfl) (fun _ _ _ h => h) (by rfl) ?yb3 (.inl (by assumption)) ?rb3
      case yb3 => (intro w; go_simp; try with_reducible rfl)
      try simp only [Act.put, List.setIfInBounds_toArray, List.set_cons_zero, List.set_cons_succ]
      refine st_run (i := 4) (v := ?vb4) rfl (by kernel_rfl) (by kernel_rfl) (by kernel_rfl) (by kernel_rfl) (fun _ _ _ h => h) (by rfl) ?yb4 (by assumption) ?rb4
      case yb4 => (intro w hSw; (try dsimp only at hSw); go_simp; try with_reducible rfl)
      try simp only [Act.put, List.setIfInBounds_toArray, List.set_cons_zero, List.set_cons_succ]
      refine st_pure (i := 5) (v := ?vb5) rfl (by kernel_rfl) (by kernel_rfl) (by kernel_rfl) (by kernel_rfl) (fun _ _ _ h => h) (by rfl) ?yb5 (.inl (by assumption)) ?rb5
      case yb5 => (intro w; go_simp; try with_reducible rfl)
      try simp only [Act.put, List.setIfInBounds_toArray, List.set_cons_zero, List.set_cons_succ]
      refine st_pure (i := 6) (v := ?vb6) rfl (by kernel_rfl) (by kernel_rfl) (by kernel_rfl) (by kernel_rfl) (fun _ _ _ h => h) (by rfl) ?yb6 (.inl (by assumption)) ?rb6
      case yb6 => (intro w; go_simp; try with_reducible rfl)
      try simp only [Act.put, List.setIfInBounds_toArray, List.set_cons_zero, List.set_cons_succ]
      refine st_late (i := 7) rfl (by kernel_rfl) (by rfl) (by kernel_rfl) (fun Kq hK => ?_)
      go_simp
      refine hK.out _ _ ?_
      clear hK Kq
      try simp only [Act.put, List.setIfInBounds_toArray, List.set_cons_zero, List.set_cons_succ]
      refine wpAnyD_done (by kernel_rfl) ?_ _
      refine NoPanic.normal ?_
      obtain ⟨wa, hwa⟩ : ∃ wa : World, wa = (wo.setCell ⟨P, 5, none⟩ (.int .i64 (lf : Int))).drew := ⟨_, rfl⟩
      rw [← hwa]
      have HPa : Hid (Blk' wa P 111 #[.int .i64 (m : Int), .int .i64 (n : Int), .int .i64 gs, .slice A rs.length c, vr, .int .i64 (lf : Int), .int .i64 (lf : Int), .slice none 0 0, .slice none 0 0, .slice none 0 0, .map (some MB)]) := Lib.hid (by rw [hwa]; exact (HPo.out.set_ 5 _).drew)
      have hKa : Kept (fun b => b = P) wo wa := by rw [hwa]; exact ((Kept.refl (fun b => b = P) wo).setCell (p := ⟨P, 5, none⟩) (.inl rfl) _).drew
      have HKa := Lib.hid hKa
      have HGa := Lib.hid ((HG1.out.kept HKo.out (by have := HZ.out; omega)).kept hKa (by have := HZ.out; omega))
      clear hwa hKa f0 p6 p5 zF zP fp5
      obtain ⟨N, hN⟩ : ∃ N, N = lf + m := ⟨_, rfl⟩
      have HN := Lib.hid hN
      have hN9 : N ≤ 82 := by omega
      have hN1 : 1 ≤ N := by have := HV.out.t1; dsimp only at this; omega
      have hwr : IntKind.i64.wrap ((lf : Int) + (m : Int)) = (N : Int) := by rw [IntWalk.i64_in _ (by omega)]; omega
      have f0 : wa.cell? ⟨FB, 0, none⟩ = some (.pointer (some ⟨P, 0, none⟩)) := (HFo.out.kept HKa.out (by have := HZ.out; omega)).cell 0
      have p6 : wa.cell? ⟨P, 6, none⟩ = some (.int .i64 (lf : Int)) := HPa.out.cell 6
      have g0 : wa.cell? ⟨M0, 0, none⟩ = some (.int .i64 (m : Int)) := HGa.out.cell 0
      have zF : FB < wa.heap.size := (HFo.out.kept HKa.out (by have := HZ.out; omega)).lt
      have zP : P < wa.heap.size := HPa.out.lt
      have zG : M0 < wa.heap.size := HGa.out.lt
      have fp6 := HPa.out.frozen 6
      clear hN
      go_wp2_with fail
      refine wp_region_noPanic ?_
      refine stage_start (S := (fun w' => w'.cell? ⟨FB, 0, none⟩ = some (.pointer (some ⟨P, 0, none⟩)) ∧ w'.cell? ⟨P, 6, none⟩ = some (.int .i64 (lf : Int)) ∧ w'.cell? ⟨M0, 0, none⟩ = some (.int .i64 (m : Int)))) 9 (by kernel_rfl) ?hc (fun hHeld => ?bc)
      case hc => ((try dsimp only); go_keep)
      refine st_run (i := 0) (v := ?vc0) rfl (by kernel_rfl) (by kernel_rfl) (by kernel_rfl) (by kernel_rfl) (fun _ _ _ h => h) (by rfl) ?yc0 (by assumption) ?rc0
      case yc0 => (intro w hSw; (try dsimp only at hSw); go_simp; try with_reducible rfl)
      try simp only [Act.put, List.setIfInBounds_toArray, List.set_cons_zero, List.set_cons_succ]
      refine st_pure (i := 1) (v := ?vc1) rfl (by kernel_rfl) (by kernel_rfl) (by kernel_rfl) (by kernel_rfl) (fun _ _ _ h => h) (by rfl) ?yc1 (.inl (by assumption)) ?rc1
      case yc1 => (intro w; go_simp; try with_reducible rfl)
      try simp only [Act.put, List.setIfInBounds_toArray, List.set_cons_zero, List.set_cons_succ]
      refine st_pure (i := 2) (v := ?vc2) rfl (by kernel_rfl) (by kernel_rfl) (by kernel_rfl) (by kernel_rfl) (fun _ _ _ h => h) (by rfl) ?yc2 (.inl (by assumption)) ?rc2
      case yc2 => (intro w; go_simp; try with_reducible rfl)
      try simp only [Act.put, List.setIfInBounds_toArray, List.set_cons_zero, List.set_cons_succ]
      refine st_run (i := 3) (v := ?vc3) rfl (by kernel_rfl) (by kernel_rfl) (by kernel_rfl) (by kernel_rfl) (fun _ _ _ h => h) (by rfl) ?yc3 (by assumption) ?rc3
      case yc3 => (intro w hSw; (try dsimp only at hSw); go_simp; try with_reducible rfl)
      try simp only [Act.put, List.setIfInBounds_toArray, List.set_cons_zero, List.set_cons_succ]
      refine st_pure (i := 4) (v := ?vc4) rfl (by kernel_rfl) (by kernel_rfl) (by kernel_rfl) (by kernel_rfl) (fun _ _ _ h => h) (by rfl) ?yc4 (.inl (by assumption)) ?rc4
      case yc4 => (intro w; go_simp; try with_reducible rfl)
      try simp only [Act.put, List.setIfInBounds_toArray, List.set_cons_zero, List.set_cons_succ]
      refine st_run (i := 5) (v := ?vc5) rfl (by kernel_rfl) (by kernel_rfl) (by kernel_rfl) (by kernel_rfl) (fun _ _ _ h => h) (by rfl) ?yc5 (by assumption) ?rc5
      case yc5 => (intro w hSw; (try dsimp only at hSw); go_simp; try with_reducible rfl)
      try simp only [Act.put, List.setIfInBounds_toArray, List.set_cons_zero, List.set_cons_succ]
      refine st_pure (i := 6) (v := ?vc6) rfl (by kernel_rfl) (by kernel_rfl) (by kernel_rfl) (by kernel_rfl) (fun _ _ _ h => h) (by rfl) ?yc6 (.inl (by assumption)) ?rc6
      case yc6 => (intro w; go_simp; try with_reducible rfl)
      try simp only [Act.put, List.setIfInBounds_toArray, List.set_cons_zero, List.set_cons_succ]
      refine st_pure (i := 7) (v := ?vc7) rfl (by kernel_rfl) (by kernel_rfl) (by kernel_rfl) (by kernel_rfl) (fun _ _ _ h => h) (by rfl) ?yc7 (.inl (by assumption)) ?rc7
      case yc7 => (intro w; go_simp; try with_reducible rfl)
      try simp only [Act.put, List.setIfInBounds_toArray, List.set_cons_zero, List.set_cons_succ]
      refine st_pure (i := 8) (v := ?vc8) rfl (by kernel_rfl) (by kernel_rfl) (by kernel_rfl) (by kernel_rfl) (fun _ _ _ h => h) (by rfl) ?yc8 (.inl (by assumption)) ?rc8
      case yc8 => (intro w; go_simp; try with_reducible rfl)
      try simp only [Act.put, List.setIfInBounds_toArray, List.set_cons_zero, List.set_cons_succ]
      refine st_late (i := 9) rfl (by kernel_rfl) (by rfl) (by kernel_rfl) (fun Kq hK => ?_)
      go_simp
      refine hK.out _ _ ?_
      clear hK Kq
      try simp only [Act.put, List.setIfInBounds_toArray, List.set_cons_zero, List.set_cons_succ]
      refine wpAnyD_done (by kernel_rfl) ?_ _
      refine NoPanic.normal ?_
      obtain ⟨wb, hwb⟩ : ∃ wb : World, wb = (wa.setCell ⟨P, 6, none⟩ (.int .i64 (N : Int))).drew := ⟨_, rfl⟩
      rw [← hwb]
      obtain ⟨rest, hrest⟩ : ∃ rest, rest = restL n rs := ⟨_, rfl⟩
      have HRest := Lib.hid hrest
      rw [← hrest] at HOo
      obtain ⟨AR, cr, ev, hlr, hcr, _⟩ := HOo.out.form
      subst ev
      have HPb : Hid (Blk' wb P 111 #[.int .i64 (m : Int), .int .i64 (n : Int), .int .i64 gs, .slice A rs.length c, .slice AR rest.length cr, .int .i64 (lf : Int), .int .i64 (N : Int), .slice none 0 0, .slice none 0 0, .slice none 0 0, .map (some MB)]) := Lib.hid (by rw [hwb]; exact (HPa.out.set_ 6 _).drew)
      have hKb : Kept (fun b => b = P) wo wb := by rw [hwb]; exact (HKa.out.setCell (p := ⟨P, 6, none⟩) (.inl rfl) _).drew
      have HKb := Lib.hid (HKo.out.later hKb (fun b hb => .inl hb))
      have HRe : Hid (Els wb (fun b => w1.heap.size ≤ b ∧ b < wb.heap.size) rest AR) := Lib.hid ((HOo.out.vl.els).2.2.2.keep (fun p hp hlt => hKb.cell hlt (fun e => by have h1 := hp.1.resolve_left id; have := HZ.out; omega)) (fun b hb => ⟨hb.1.resolve_left id, Nat.lt_of_lt_of_le hb.2 hKb.size⟩))
      have HGb := Lib.hid (HG1.out.kept HKb.out (by have := HZ.out; omega))
      have HEb := Lib.hid (HE1.out.kept HKb.out (fun b hb e => by have := HS.out b hb; have := HZ.out; omega))
      have HBz : Hid (w1.heap.size ≤ wb.heap.size) := Lib.hid HKb.out.size
      clear hwb hKb f0 p6 g0 zF zP zG fp6 hwr hrest HKa HPa HGa HFo HPo HOo HKo
      have g3 : wb.cell? ⟨M0, 3, none⟩ = some (.slice A rs.length c) := HGb.out.cell 3
      have zG : M0 < wb.heap.size := HGb.out.lt
      have e9 : rs.length ≤ 9223372036854775807 := by omega
      clear hkn
      go_wp2_with fail
      clear g3 zG
      go_loopw [78] (fun i wr => ∃ (k : Nat) (vp : Value), k ≤ rs.length ∧ i = .int .i64 k ∧ Blk' wr P 111 #[.int .i64 (m : Int), .int .i64 (n : Int), .int .i64 gs, .slice A rs.length c, .slice AR rest.length cr, .int .i64 (lf : Int), .int .i64 (N : Int), vp, .slice none 0 0, .slice none 0 0, .map (some MB)] ∧ Own wr (fun _ => False) wb.heap.size 169 vp (npartL lf 0 (rs.take k) (rest.take k)) ∧ Kept (fun b => b = P) wb wr) (fun i _ => rs.length - (intOf i).toNat)
      case atStart => exact ⟨0, _, Nat.zero_le _, rfl, HPb.out, Own.nil _ _ _ _, Kept.refl _ _⟩
      case round =>
        obtain ⟨wo, hwo⟩ : ∃ wo : World, wo = wr := ⟨_, rfl⟩
        subst hwo
        obtain ⟨k, vp, hk, rfl, hPo, hOo, hKo⟩ := hrel
        have HPo := Lib.hid hPo
        have HOo := Lib.hid hOo
        have HKo := Lib.hid hKo
        clear hPo hOo hKo
        by_cases hkn : k < rs.length
        · obtain ⟨q, hq⟩ := get_some hkn
          have hy : rest[k]? = some (fromN (n + moreN (rs.take k)) (q.right.length - 2)) := by rw [HRest.out]; exact restL_get hq
          obtain ⟨y, hyd⟩ : ∃ y, y = fromN (n + moreN (rs.take k)) (q.right.length - 2) := ⟨_, rfl⟩
          rw [← hyd] at hy
          have hyl : y.length = q.right.length - 2 := by rw [hyd, fromN_len]
          have hqv := HV.out.rules q (List.mem_of_getElem? hq)
          dsimp only at hqv
          have HQs : Hid (∀ s ∈ q.right, 0 ≤ s.n ∧ s.n ≤ 1000) := Lib.hid (fun s hs => by have h := hqv.2.2.2 s hs; refine ⟨h.1, ?_⟩; have h2 := h.2; split at h2 <;> omega)
          have HQ := Lib.hid (And.intro hq (And.intro hy (And.intro hyl hqv.2.2.1)))
          have HPl : Hid ((npartL lf 0 (rs.take k) (rest.take k)).length ≤ 1000) := Lib.hid (by
            have h := npartL_len (rs.take k) lf 0 (rest.take k) (fun r hr => (HV.out.rules r (List.mem_of_mem_take hr)).2.2.1)
            rw [List.length_take] at h
            omega)
          have HEo := Lib.hid (HEb.out.kept HKo.out (fun b hb e => by have := HS.out b hb; have := HZ.out; omega))
          have HRo := Lib.hid (HRe.out.kept HKo.out (fun b hb e => by have := hb.1; have := HZ.out; omega))
          have HFo := Lib.hid ((HF1.out.kept HKb.out (by have := HZ.out; omega)).kept HKo.out (by have := HZ.out; omega))
          have hk9 : (k : Int) < (rs.length : Int) := by omega
          have f0 : wo.cell? ⟨FB, 0, none⟩ = some (.pointer (some ⟨P, 0, none⟩)) := HFo.out.cell 0
          have zF : FB < wo.heap.size := HFo.out.lt
          have HKz : Hid (P < wb.heap.size ∧ wb.heap.size ≤ wo.heap.size) := Lib.hid ⟨by have := HZ.out; have := HBz.out; omega, HKo.out.size⟩
          clear hq hy hyl hqv hyd
          go_wp2_with fail
          refine (divide_any P lf k wb.heap.size (m : Int) (n : Int) gs rs A c S rest AR cr (fun b => w1.heap.size ≤ b ∧ b < wb.heap.size) (N : Int) vp (.slice none 0 0) (.slice none 0 0) (.map (some MB)) (npartL lf 0 (rs.take k) (rest.take k)) q y wo HPo.out HQ.out.1 HQ.out.2.1 HQ.out.2.2.1 hrs HQ.out.2.2.2 HQs.out (by omega) hlc hc HEo.out hlr hcr HRo.out HOo.out HPl.out HKz.out.1 HKz.out.2 (fun b hb => by have := HS.out b hb; have := HZ.out; have := HBz.out; omega) (fun b hb => ⟨hb.2, fun e => by have := hb.1; have := HZ.out; omega⟩)).mono ?_
          rintro e w3 ⟨rfl, vp', hP3, hO3, hK3⟩
          have HP3 := Lib.hid hP3
          have HO3 : Hid (Own w3 (fun _ => False) wb.heap.size 169 vp' (npartL lf 0 (rs.take (k + 1)) (rest.take (k + 1)))) := Lib.hid (by
            rw [take_snoc HQ.out.1, take_snoc HQ.out.2.1, npartL_snoc _ _ _ _ _ _ (by rw [List.length_take, List.length_take]; have : rest.length = rs.length := (by rw [HRest.out, restL_len]); omega), List.length_take, Nat.min_eq_left (by omega), Nat.zero_add]
            exact hO3)
          have HK3 := Lib.hid (HKo.out.later hK3 (fun b hb => hb))
          clear hP3 hO3 hK3 f0 zF
          go_wp2_with fail
          go_roundw
          case rel => exact ⟨k + 1, _, hkn, by go_num, HP3.out, HO3.out, HK3.out⟩
          case measure => simp [intOf]; omega
        · have hkk : k = rs.length := by omega
          subst hkk
          rw [List.take_length, List.take_of_length_le (l := rest) (by rw [HRest.out, restL_len]; exact Nat.le_refl _)] at HOo
          obtain ⟨ps, hps⟩ : ∃ ps, ps = npartL lf 0 rs rest := ⟨_, rfl⟩
          rw [← hps] at HOo
          have HPs : Hid (ps = psN n rs) := Lib.hid (by rw [hps, HRest.out, HLf.out]; rfl)
          have hpl : ps.length ≤ 96 := by rw [HPs.out]; exact psN_len HV.out n
          have HOk : Hid (∀ p ∈ ps, PartOk N p) := Lib.hid (by rw [HPs.out, HN.out, HLf.out]; exact psN_ok HV.out rfl rfl)
          obtain ⟨AP, cp, ev, hlp, hcp, _⟩ := HOo.out.form
          subst ev
          have HPe : Hid (Els wo (fun b => wb.heap.size ≤ b ∧ b < wo.heap.size) ps AP) := Lib.hid ((HOo.out.vl.els).2.2.2.keep (fun _ _ _ => rfl) (fun b hb => ⟨hb.1.resolve_left id, hb.2⟩))
          have HKw := Lib.hid (HKb.out.later HKo.out (fun b hb => .inl hb))
          have HRo := Lib.hid (HRe.out.kept HKo.out (fun b hb e => by have := hb.1; have := HZ.out; omega))
          have HFo := Lib.hid (HF1.out.kept HKw.out (by have := HZ.out; omega))
          have HMo := Lib.hid (HM1.out.kept HKw.out (by have := HZ.out; omega))
          have HZo : Hid (wb.heap.size ≤ wo.heap.size) := Lib.hid HKo.out.size
          have hmk2 := make_eq N (by omega)
          have f0 : wo.cell? ⟨FB, 0, none⟩ = some (.pointer (some ⟨P, 0, none⟩)) := HFo.out.cell 0
          have p6 : wo.cell? ⟨P, 6, none⟩ = some (.int .i64 (N : Int)) := HPo.out.cell 6
          have zF : FB < wo.heap.size := HFo.out.lt
          have zP : P < wo.heap.size := HPo.out.lt
          clear hps HOo HKo hk HPb HRe HEb HGb
          go_wp2_with fail
          refine wp_region_noPanic ?_
          refine stage_start (S := (fun w' => w'.cell? ⟨FB, 0, none⟩ = some (.pointer (some ⟨P, 0, none⟩)) ∧ w'.cell? ⟨P, 6, none⟩ = some (.int .i64 (N : Int)))) 8 (by kernel_rfl) ?hd (fun hHeld => ?bd)
          case hd => ((try dsimp only); go_keep)
          refine st_run (i := 0) (v := ?vd0) rfl (by kernel_rfl) (by kernel_rfl) (by kernel_rfl) (by kernel_rfl) (fun _ _ _ h => h) (by rfl) ?yd0 (by assumption) ?rd0
          case yd0 => (intro w hSw; (try dsimp only at hSw); go_simp; try with_reducible rfl)
          try simp only [Act.put, List.setIfInBounds_toArray, List.set_cons_zero, List.set_cons_succ]
          refine st_run (i := 1) (v := ?vd1) rfl (by kernel_rfl) (by kernel_rfl) (by kernel_rfl) (by kernel_rfl) (fun _ _ _ h => h) (by rfl) ?yd1 (by assumption) ?rd1
          case yd1 => (intro w hSw; (try dsimp only at hSw); go_simp; try with_reducible rfl)
          try simp only [Act.put, List.setIfInBounds_toArray, List.set_cons_zero, List.set_cons_succ]
          refine st_pure (i := 2) (v := ?vd2) rfl (by kernel_rfl) (by kernel_rfl) (by kernel_rfl) (by kernel_rfl) (fun _ _ _ h => h) (by rfl) ?yd2 (.inl (by assumption)) ?rd2
          case yd2 => (intro w; go_simp; try with_reducible rfl)
          try simp only [Act.put, List.setIfInBounds_toArray, List.set_cons_zero, List.set_cons_succ]
          refine st_pure (i := 3) (v := ?vd3) rfl (by kernel_rfl) (by kernel_rfl) (by kernel_rfl) (by kernel_rfl) (fun _ _ _ h => h) (by rfl) ?yd3 (.inl (by assumption)) ?rd3
          case yd3 => (intro w; go_simp; try with_reducible rfl)
          try simp only [Act.put, List.setIfInBounds_toArray, List.set_cons_zero, List.set_cons_succ]
          refine st_run (i := 4) (v := ?vd4) rfl (by kernel_rfl) (by kernel_rfl) (by kernel_rfl) (by kernel_rfl) (fun _ _ _ h => h) (by rfl) ?yd4 (by assumption) ?rd4
          case yd4 => (intro w hSw; (try dsimp only at hSw); go_simp; try with_reducible rfl)
          try simp only [Act.put, List.setIfInBounds_toArray, List.set_cons_zero, List.set_cons_succ]
          refine st_one (i := 5) rfl (by kernel_rfl) (by rfl) (fun Kq hK => ?_)
          go_simp
          obtain ⟨w3, hw3⟩ : ∃ w3 : World, w3 = (wo.alloc (.cells (bcells (List.replicate N false)) 4)).drew := ⟨_, rfl⟩
          have hb3 : Below wo.heap.size wo w3 := by rw [hw3]; exact ((Below.refl _ _).alloc (Nat.le_refl _) _).drew
          have hn3 : Blk' w3 wo.heap.size 4 (bcells (List.replicate N false)) := by rw [hw3]; exact (Blk'.new _ _ _).drew
          rw [← hw3]
          have hP3 := HPo.out.below hb3 HPo.out.lt
          have f0b : w3.cell? ⟨FB, 0, none⟩ = some (.pointer (some ⟨P, 0, none⟩)) := (hb3.cell (p := ⟨FB, 0, none⟩) zF).trans f0
          have p6b : w3.cell? ⟨P, 6, none⟩ = some (.int .i64 (N : Int)) := hP3.cell 6
          have p8b : w3.cell? ⟨P, 8, none⟩ = some (.slice none 0 0) := hP3.cell 8
          have fp8 := hP3.frozen 8
          have zP3 := hP3.lt
          have HP3 := Lib.hid hP3
          have HN3 := Lib.hid hn3
          have HB3 := Lib.hid hb3
          have HZ3 : Hid (w3.heap.size = wo.heap.size + 1) := Lib.hid (by rw [hw3]; simp)
          clear hP3 hn3 hb3 hw3
          refine hK.out _ _ ?hd5 (fun hHeld => ?rd5)
          case hd5 => ((try dsimp only); go_keep)
          clear hK Kq
          try simp only [Act.put, List.setIfInBounds_toArray, List.set_cons_zero, List.set_cons_succ]
          refine st_pure (i := 6) (v := ?vd6) rfl (by kernel_rfl) (by kernel_rfl) (by kernel_rfl) (by kernel_rfl) (fun _ _ _ h => h) (by rfl) ?yd6 (.inl (by assumption)) ?rd6
          case yd6 => (intro w; go_simp; try with_reducible rfl)
          try simp only [Act.put, List.setIfInBounds_toArray, List.set_cons_zero, List.set_cons_succ]
          refine st_pure (i := 7) (v := ?vd7) rfl (by kernel_rfl) (by kernel_rfl) (by kernel_rfl) (by kernel_rfl) (fun _ _ _ h => h) (by rfl) ?yd7 (.inl (by assumption)) ?rd7
          case yd7 => (intro w; go_simp; try with_reducible rfl)
          try simp only [Act.put, List.setIfInBounds_toArray, List.set_cons_zero, List.set_cons_succ]
          refine st_late (i := 8) rfl (by kernel_rfl) (by rfl) (by kernel_rfl) (fun Kq hK => ?_)
          go_simp
          refine hK.out _ _ ?_
          clear hK Kq
          try simp only [Act.put, List.setIfInBounds_toArray, List.set_cons_zero, List.set_cons_succ]
          refine wpAnyD_done (by kernel_rfl) ?_ _
          refine NoPanic.normal ?_
          obtain ⟨NB, hNB⟩ : ∃ NB, NB = wo.heap.size := ⟨_, rfl⟩
          obtain ⟨wc, hwc⟩ : ∃ wc : World, wc = w3.setCell ⟨P, 8, none⟩ (.slice (some ⟨NB, 0, none⟩) N N) := ⟨_, rfl⟩
          rw [← hNB, ← hwc]
          have hKc : Kept (fun b => b = P) w3 wc := by rw [hwc]; exact (Kept.refl (fun b => b = P) w3).setCell (p := ⟨P, 8, none⟩) (.inl rfl) _
          have HPc : Hid (Blk' wc P 111 #[.int .i64 (m : Int), .int .i64 (n : Int), .int .i64 gs, .slice A rs.length c, .slice AR rest.length cr, .int .i64 (lf : Int), .int .i64 (N : Int), .slice AP ps.length cp, .slice (some ⟨NB, 0, none⟩) N N, .slice none 0 0, .map (some MB)]) := Lib.hid (by rw [hwc]; exact HP3.out.set_ 8 _)
          have HZc : Hid (NB = wo.heap.size ∧ wo.heap.size < wc.heap.size) := Lib.hid ⟨hNB, by have := HZ3.out; have := hKc.size; omega⟩
          have HPz : Hid (P < w1.heap.size ∧ w1.heap.size ≤ wb.heap.size ∧ wb.heap.size ≤ NB) := Lib.hid ⟨by have := HZ.out; omega, HBz.out, by have := HZo.out; omega⟩
          have HNc : Hid (Blk' wc NB 4 (bcells (List.replicate N false))) := Lib.hid (by have h := HN3.out; rw [← hNB] at h; exact h.kept hKc (by have := HPz.out; omega))
          have HKc := Lib.hid ((Kept.of_below (fun b => b = P) HB3.out).trans hKc)
          have HFc := Lib.hid (HFo.out.kept HKc.out (by have := HZ.out; omega))
          have HMc := Lib.hid (HMo.out.kept HKc.out (by have := HZ.out; omega))
          have HRc := Lib.hid (HRo.out.kept HKc.out (fun b hb e => by have := hb.1; have := HZ.out; omega))
          have HEc := Lib.hid (HPe.out.kept HKc.out (fun b hb e => by have := hb.1; have := HPz.out; omega))
          have HBc : Hid (Below w.heap.size w wc) := Lib.hid (HB1.out.trans ((HKw.out.later HKc.out (fun b hb => .inl hb)).to_below (B := w.heap.size) (fun b hb => by have := HZ.out; omega) HB1.out.size))
          have HNS : Hid (NuS N ps (List.replicate N false)) := Lib.hid (NuS.start N ps)
          clear hwc hKc hNB f0 p6 f0b p6b p8b fp8 zF zP zP3 HP3 HN3 HB3 HZ3 HRo HMo HFo HPo HPe HKw HP1 HF1 HM1
          have HN1 := Lib.hid hN1
          clear hkn hmk2 hN1 hm8 hlf9
          go_wp2_with fail
          go_loopg [8] (N + 1) (fun gk ag wr => ∃ (nb : List Bool) (b : Bool), ag = .bool b ∧ Blk' wr NB 4 (bcells nb) ∧ NuS N ps nb ∧ (b = false → NulRow N ps nb) ∧ nb.count false + (if b then 1 else 0) ≤ gk ∧ Kept (fun b => b = NB) wc wr)
          case atStart => exact ⟨_, true, rfl, HNc.out, HNS.out, (fun h => by cases h), (by simp), Kept.refl _ _⟩
          case round =>
            obtain ⟨wd, hwd⟩ : ∃ wd : World, wd = wr := ⟨_, rfl⟩
            subst hwd
            obtain ⟨nb0, b0, rfl, hNd, hSd, hcl, hfa, hKd⟩ := hrel
            have HNd := Lib.hid hNd
            have HSd := Lib.hid hSd
            have HCl := Lib.hid hcl
            have HFa := Lib.hid hfa
            have HKd := Lib.hid hKd
            clear hNd hSd hcl hfa hKd HNc HNS
            cases b0
            · have HNul := Lib.hid (HCl.out rfl)
              have HPd := Lib.hid (HPc.out.kept HKd.out (by have := HPz.out; omega))
              have HFd := Lib.hid (HFc.out.kept HKd.out (by have := HPz.out; have := HZ.out; omega))
              have HEd := Lib.hid (HEc.out.kept HKd.out (fun b hb e => by have := hb.2; have := HZc.out; omega))
              have HMd := Lib.hid (HMc.out.kept HKd.out (by have := HPz.out; have := HZ.out; omega))
              have HRd := Lib.hid (HRc.out.kept HKd.out (fun b hb e => by have := hb.2; have := HPz.out; omega))
              have HZd : Hid (wc.heap.size ≤ wd.heap.size) := Lib.hid HKd.out.size
              have f0 : wd.cell? ⟨FB, 0, none⟩ = some (.pointer (some ⟨P, 0, none⟩)) := HFd.out.cell 0
              have zF : FB < wd.heap.size := HFd.out.lt
              clear HFa HCl HSd
              go_wp2_with fail
              refine (close_any P N NB (.int .i64 (m : Int)) (.int .i64 (n : Int)) (.int .i64 gs) (.slice A rs.length c) (.slice AR rest.length cr) (.int .i64 (lf : Int)) (.map (some MB)) AP cp (fun b => wb.heap.size ≤ b ∧ b < wo.heap.size) ps nb0 wd HPd.out HN1.out (by omega) (by omega) hlp hcp HEd.out (fun b hb => by have h1 := hb.1; have h2 := hb.2; have := HPz.out; have := HZc.out; have := HZd.out; exact ⟨by omega, by omega⟩) HNd.out (by have := HPz.out; omega) HNul.out HOk.out).mono ?_
              rintro e we ⟨bf, bs, cf, f, rfl, hS, hgt, hge⟩
              have HPe := Lib.hid hS.ptr
              have HRw := Lib.hid hS.rows
              have HGt := Lib.hid hgt
              have HGe := Lib.hid hge
              have HKe := Lib.hid hS.kept
              have HFe := Lib.hid (HFd.out.kept hS.kept (by have := HZ.out; omega))
              have HMe := Lib.hid (HMd.out.kept hS.kept (by have := HZ.out; omega))
              have HNe := Lib.hid (HNd.out.kept hS.kept (by have := HPz.out; omega))
              have HEe := Lib.hid (HEd.out.kept hS.kept (fun b hb e => by have := hb.1; have := HPz.out; omega))
              have HRe := Lib.hid (HRd.out.kept hS.kept (fun b hb e => by have := hb.1; have := HPz.out; omega))
              have HBe : Hid (Below w.heap.size w we) := Lib.hid ((HBc.out.trans (HKd.out.to_below (B := w.heap.size) (fun b hb => by have := HPz.out; have := HZ.out; omega) HBc.out.size)).trans (hS.kept.to_below (B := w.heap.size) (fun b hb => by have := HZ.out; omega) (by have := HBc.out.size; have := HZd.out; omega)))
              have HM0 : Hid (PairM we MB 0 (fun l' a b => PairX N ps 0 0 l' a b)) := Lib.hid (HMe.out.iff (fun l a b _ _ _ => ⟨fun h => False.elim h, fun h => (by have h2 := PairX.zero.1 h; omega)⟩))
              have f1 : we.cell? ⟨FB, 0, none⟩ = some (.pointer (some ⟨P, 0, none⟩)) := HFe.out.cell 0
              have p6 : we.cell? ⟨P, 6, none⟩ = some (.int .i64 (N : Int)) := HPe.out.cell 6
              have zFe : FB < we.heap.size := HFe.out.lt
              have zPe : P < we.heap.size := HPe.out.lt
              clear hS hgt hge f0 zF HPd HFd HEd HMd HRd HNd HKd HMe
              go_wp2_with fail
              clear f1 p6 zFe zPe
              go_loopw [133] (fun i wr => ∃ (l nm : Nat), l ≤ N ∧ i = .int .i64 l ∧ nm ≤ l * 100 ∧ PairM wr MB nm (fun l' a b => PairX N ps l 0 l' a b) ∧ Kept (fun b => b = MB) we wr) (fun i _ => N - (intOf i).toNat)
              case atStart => exact ⟨0, 0, Nat.zero_le _, rfl, by omega, HM0.out, Kept.refl _ _⟩
              case round =>
                obtain ⟨wg, hwg⟩ : ∃ wg : World, wg = wr := ⟨_, rfl⟩
                subst hwg
                obtain ⟨l, nm, hl, rfl, hnm, hMg, hKg⟩ := hrel
                have HMg := Lib.hid hMg
                have HKg := Lib.hid hKg
                have HNm := Lib.hid hnm
                clear hMg hKg hnm HM0
                have HFg := Lib.hid (HFe.out.kept HKg.out (by have := HZ.out; omega))
                have HPg := Lib.hid (HPe.out.kept HKg.out (by have := HZ.out; omega))
                by_cases hln : l < N
                · have f1 : wg.cell? ⟨FB, 0, none⟩ = some (.pointer (some ⟨P, 0, none⟩)) := HFg.out.cell 0
                  have p7 : wg.cell? ⟨P, 7, none⟩ = some (.slice AP ps.length cp) := HPg.out.cell 7
                  have zFe : FB < wg.heap.size := HFg.out.lt
                  have zPe : P < wg.heap.size := HPg.out.lt
                  have hl9 : (l : Int) < (N : Int) := by omega
                  go_wp2_with fail
                  clear f1 p7 zFe zPe
                  go_loopw [141] (fun i wr => ∃ (j nm : Nat), j ≤ ps.length ∧ i = .int .i64 j ∧ nm ≤ l * 100 + j ∧ PairM wr MB nm (fun l' a b => PairX N ps l j l' a b) ∧ Kept (fun b => b = MB) we wr) (fun i _ => ps.length - (intOf i).toNat)
                  case atStart => exact ⟨0, nm, Nat.zero_le _, rfl, HNm.out, HMg.out, HKg.out⟩
                  case round =>
                    obtain ⟨wi, hwi⟩ : ∃ wi : World, wi = wr := ⟨_, rfl⟩
                    subst hwi
                    obtain ⟨j, nm, hj, rfl, hnm, hMi, hKi⟩ := hrel
                    have HMi := Lib.hid hMi
                    have HKi := Lib.hid hKi
                    have HNi := Lib.hid hnm
                    clear hMi hKi hnm HMg HKg HNm HFg HPg
                    by_cases hjn : j < ps.length
                    · obtain ⟨p, hp⟩ := get_some hjn
                      have hEw := HEe.out.kept HKi.out (fun b hb e => by have := hb.1; have := HPz.out; have := HZ.out; omega)
                      obtain ⟨bp, op, Ar, cr', eAP, hSb, hbl, hi1, hi2, hrl, hcr2, hEr, c0, c1, c2, c3⟩ := hEw.part hp
                      subst eAP
                      have HPart := Lib.hid hp
                      have hpo := HOk.out p (List.mem_of_getElem? hp)
                      obtain ⟨pl, pr, prt, pwh⟩ := p
                      dsimp only at hi1 hi2 hrl hcr2 hEr c0 c1 c2 c3 hpo
                      obtain ⟨a0, rfl⟩ : ∃ a : Nat, pl = (a : Int) := ⟨pl.toNat, by have := hpo.1; dsimp only at this; omega⟩
                      have ha0 : a0 < N := by have := hpo.1; dsimp only at this; omega
                      have hp2 : prt.length ≤ 2 := hpo.2.1
                      have HIn : Hid (∀ m ∈ prt, 0 ≤ m ∧ m < (N : Int)) := Lib.hid hpo.2.2
                      have hj0 : (0 : Int) ≤ (j : Int) := by omega
                      have hj9 : (j : Int) < (ps.length : Int) := by omega
                      have hnb : ∀ b ∈ bf :: bs, ¬ b = MB := fun b hb e => by have := HGe.out b hb; have := HZ.out; have := HPz.out; have := HZc.out; have := HZd.out; omega
                      have hRi := HRw.out.kept HKi.out hnb
                      have hlb : l < bs.length := by rw [hRi.blen]; exact hln
                      obtain ⟨bl, hbl2⟩ := get_some hlb
                      obtain ⟨row, hrow, hrd, hrl2⟩ := (WarS.ofRows hRi).get hln
                      have hBl := (hRi.rows l bl row hbl2 hrow).1
                      obtain ⟨x, hx⟩ := get_some (show a0 < row.length by omega)
                      have HXg : Hid (Leads N ps l a0 ↔ x = true) := Lib.hid (by rw [← HGt.out l a0 hln ha0]; unfold Gt; rw [hrd, hx]; simp)
                      obtain ⟨w2, hw2⟩ : ∃ w2 : World, w2 = wi.alloc (.cells #[.int .i64 (a0 : Int), .int .i64 pr, .slice Ar prt.length cr', .bool pwh] 169) := ⟨_, rfl⟩
                      have HW2 := Lib.hid hw2
                      have hb2 : Below wi.heap.size wi w2 := by rw [hw2]; exact (Below.refl _ _).alloc (Nat.le_refl _) _
                      have HX2 : Hid (Blk' w2 wi.heap.size 169 #[.int .i64 (a0 : Int), .int .i64 pr, .slice Ar prt.length cr', .bool pwh]) := Lib.hid (by rw [hw2]; exact Blk'.new _ _ _)
                      have HFi := HFe.out.kept HKi.out (show ¬ FB = MB by have := HZ.out; omega)
                      have HPi := HPe.out.kept HKi.out (show ¬ P = MB by have := HZ.out; omega)
                      have HF2 := Lib.hid (HFi.below hb2 HFi.lt)
                      have HP2 := Lib.hid (HPi.below hb2 HPi.lt)
                      have HM2 := Lib.hid (HMi.out.below hb2)
                      have HK2 := Lib.hid (HKi.out.below hb2)
                      have HEr2 := Lib.hid (hEr.below hb2)
                      have o0 : w2.cell? ⟨bf, l, none⟩ = some (.slice (some ⟨bl, 0, none⟩) N N) := (hRi.below hb2).outer l bl hbl2
                      have y0 : w2.cell? ⟨bl, a0, none⟩ = some (.bool x) := ((hBl.below hb2 hBl.lt).cell _).trans (bcells_get hx)
                      clear hp hpo hw2 hb2 hEr hEw hi1 hi2 hx HFi HPi hBl hrow hrd hrl2 hbl2 hlb hRi hnb
                      go_upto_region 37 with (fail)
                      rw [← HW2.out]
                      have x0 : w2.cell? ⟨wi.heap.size, 0, none⟩ = some (.int .i64 (a0 : Int)) := HX2.out.cell 0
                      have x2 : w2.cell? ⟨wi.heap.size, 2, none⟩ = some (.slice Ar prt.length cr') := HX2.out.cell 2
                      have f0 : w2.cell? ⟨FB, 0, none⟩ = some (.pointer (some ⟨P, 0, none⟩)) := HF2.out.cell 0
                      have p9 : w2.cell? ⟨P, 9, none⟩ = some (.slice (some ⟨bf, 0, none⟩) N cf) := HP2.out.cell 9
                      have p10 : w2.cell? ⟨P, 10, none⟩ = some (.map (some MB)) := HP2.out.cell 10
                      have zX : wi.heap.size < w2.heap.size := HX2.out.lt
                      have zF : FB < w2.heap.size := HF2.out.lt
                      have zP : P < w2.heap.size := HP2.out.lt
                      have ha9 : (a0 : Int) < (N : Int) := by omega
                      have ha00 : (0 : Int) ≤ (a0 : Int) := by omega
                      have hl00 : (0 : Int) ≤ (l : Int) := by omega
                      clear c0 c1 c2 c3 hbl hSb HW2 hj0 hj9
                      cases x
                      · have HMs : Hid (PairM w2 MB nm (fun l' a b => PairX N ps l (j + 1) l' a b)) := Lib.hid (HM2.out.iff (fun l' a b _ _ _ => (PairX.skip HPart.out (.inl (fun h => by have h2 := HXg.out.1 (by simpa using h); cases h2))).symm))
                        go_quiet (fail)
                        go_wp2_with fail
                        go_roundw
                        case rel => exact ⟨j + 1, nm, hjn, by go_num, by have := HNi.out; omega, HMs.out.below (bdrewN (Below.refl _ _)), HK2.out.below (bdrewN (Below.refl _ _))⟩
                        case measure => simp [intOf]; omega
                      · by_cases hpt : prt.length = 2
                        · have HPt := Lib.hid hpt
                          have e1 : ((prt.length : Int) == 2) = true := by simp; omega
                          obtain ⟨a1, ha1⟩ := get_some (show 0 < prt.length by omega)
                          obtain ⟨b1, hb1⟩ := get_some (show 1 < prt.length by omega)
                          have hprt : prt = [a1, b1] := by
                            match prt, hpt, ha1, hb1 with
                            | [u, v], _, h1, h2 => simp at h1 h2; rw [h1, h2]
                          have HPrt := Lib.hid hprt
                          obtain ⟨br, oz, eAr, hSr, hbr, hai, ca1⟩ := HEr2.out.int ha1
                          obtain ⟨br', oz', eAr', _, _, hbi, cb1⟩ := HEr2.out.int hb1
                          subst eAr
                          injection eAr' with eAr'
                          injection eAr' with e5 e6 _
                          subst e5; subst e6
                          rw [Nat.add_zero] at ca1
                          have h10 : (0 : Int) < (prt.length : Int) := by omega
                          have g10 : 0 < prt.length := by omega
                          have g11 : 1 < prt.length := by omega
                          have h11 : (1 : Int) < (prt.length : Int) := by omega
                          clear hpt hprt ha1 hb1 hSr
                          go_quiet (fail)
                          obtain ⟨wq, hwq⟩ : ∃ wq : World, wq = w2.drewN nq := ⟨_, rfl⟩
                          have hbq : Below w2.heap.size w2 wq := by rw [hwq]; exact bdrewN (Below.refl _ _)
                          rw [← hwq]
                          have q2 : wq.cell? ⟨wi.heap.size, 2, none⟩ = some (.slice (some ⟨br, oz, none⟩) prt.length cr') := (hbq.cell (p := ⟨wi.heap.size, 2, none⟩) zX).trans x2
                          have q0 : wq.cell? ⟨FB, 0, none⟩ = some (.pointer (some ⟨P, 0, none⟩)) := (hbq.cell (p := ⟨FB, 0, none⟩) zF).trans f0
                          have q10 : wq.cell? ⟨P, 10, none⟩ = some (.map (some MB)) := (hbq.cell (p := ⟨P, 10, none⟩) zP).trans p10
                          have qa : wq.cell? ⟨br, oz, none⟩ = some (.int .i64 a1) := (hbq.cell (p := ⟨br, oz, none⟩) hbr).trans ca1
                          have qb : wq.cell? ⟨br, oz + 1, none⟩ = some (.int .i64 b1) := (hbq.cell (p := ⟨br, oz + 1, none⟩) hbr).trans cb1
                          obtain ⟨w9, hrun, hM9, hg9⟩ := (HM2.out.below (hbq.drew)).put (l := (l : Int)) (by have := HNi.out; simp [maxLen]; omega) (show I64 (l : Int) from ⟨by omega, by omega⟩) hai hbi
                          have HM9 : Hid (PairM w9 MB (nm + 1) (fun l' a b => PairX N ps l (j + 1) l' a b)) := Lib.hid (hM9.iff (fun l' a b _ _ _ => (PairX.put HPart.out (by simpa using HXg.out.2 (by trivial)) HPrt.out).symm))
                          have HK9 : Hid (Kept (fun b => b = MB) we w9) := Lib.hid (((HK2.out.below hbq).drew).trans (Kept.of_grown (X := fun b => b = MB) hg9 (fun g hg => by injection hg with hg; exact hg.symm)))
                          clear hwq hbq hM9 hg9 x0 x2 f0 p9 p10 o0 y0 ca1 cb1
                          go_wp2_with fail
                          refine wp_region_noPanic ?_
                          refine stage_start (S := (fun w' => w'.cell? ⟨FB, 0, none⟩ = some (.pointer (some ⟨P, 0, none⟩)) ∧ w'.cell? ⟨P, 10, none⟩ = some (.map (some MB)) ∧ w'.cell? ⟨wi.heap.size, 2, none⟩ = some (.slice (some ⟨br, oz, none⟩) prt.length cr') ∧ w'.cell? ⟨br, oz, none⟩ = some (.int .i64 a1) ∧ w'.cell? ⟨br, oz + 1, none⟩ = some (.int .i64 b1))) 14 (by kernel_rfl) ?hg (fun hHeld => ?bg)
                          case hg => ((try dsimp only); go_keep)
                          refine st_run (i := 0) (v := ?vg0) rfl (by kernel_rfl) (by kernel_rfl) (by kernel_rfl) (by kernel_rfl) (fun _ _ _ h => h) (by rfl) ?yg0 (by assumption) ?rg0
                          case yg0 => (intro w hSw; (try dsimp only at hSw); go_simp; try with_reducible rfl)
                          try simp only [Act.put, List.setIfInBounds_toArray, List.set_cons_zero, List.set_cons_succ]
                          refine st_pure (i := 1) (v := ?vg1) rfl (by kernel_rfl) (by kernel_rfl) (by kernel_rfl) (by kernel_rfl) (fun _ _ _ h => h) (by rfl) ?yg1 (.inl (by assumption)) ?rg1
                          case yg1 => (intro w; go_simp; try with_reducible rfl)
                          try simp only [Act.put, List.setIfInBounds_toArray, List.set_cons_zero, List.set_cons_succ]
                          refine st_pure (i := 2) (v := ?vg2) rfl (by kernel_rfl) (by kernel_rfl) (by kernel_rfl) (by kernel_rfl) (fun _ _ _ h => h) (by rfl) ?yg2 (.inl (by assumption)) ?rg2
                          case yg2 => (intro w; go_simp; try with_reducible rfl)
                          try simp only [Act.put, List.setIfInBounds_toArray, List.set_cons_zero, List.set_cons_succ]
                          refine st_run (i := 3) (v := ?vg3) rfl (by kernel_rfl) (by kernel_rfl) (by kernel_rfl) (by kernel_rfl) (fun _ _ _ h => h) (by rfl) ?yg3 (by assumption) ?rg3
                          case yg3 => (intro w hSw; (try dsimp only at hSw); go_simp; try with_reducible rfl)
                          try simp only [Act.put, List.setIfInBounds_toArray, List.set_cons_zero, List.set_cons_succ]
                          refine st_pure (i := 4) (v := ?vg4) rfl (by kernel_rfl) (by kernel_rfl) (by kernel_rfl) (by kernel_rfl) (fun _ _ _ h => h) (by rfl) ?yg4 (.inl (by assumption)) ?rg4
                          case yg4 => (intro w; go_simp; try with_reducible rfl)
                          try simp only [Act.put, List.setIfInBounds_toArray, List.set_cons_zero, List.set_cons_succ]
                          refine st_pure (i := 5) (v := ?vg5) rfl (by kernel_rfl) (by kernel_rfl) (by kernel_rfl) (by kernel_rfl) (fun _ _ _ h => h) (by rfl) ?yg5 (.inl (by assumption)) ?rg5
                          case yg5 => (intro w; go_simp; try with_reducible rfl)
                          try simp only [Act.put, List.setIfInBounds_toArray, List.set_cons_zero, List.set_cons_succ]
                          refine st_run (i := 6) (v := ?vg6) rfl (by kernel_rfl) (by kernel_rfl) (by kernel_rfl) (by kernel_rfl) (fun _ _ _ h => h) (by rfl) ?yg6 (by assumption) ?rg6
                          case yg6 => (intro w hSw; (try dsimp only at hSw); go_simp; try with_reducible rfl)
                          try simp only [Act.put, List.setIfInBounds_toArray, List.set_cons_zero, List.set_cons_succ]
                          refine st_pure (i := 7) (v := ?vg7) rfl (by kernel_rfl) (by kernel_rfl) (by kernel_rfl) (by kernel_rfl) (fun _ _ _ h => h) (by rfl) ?yg7 (.inl (by assumption)) ?rg7
                          case yg7 => (intro w; go_simp; try with_reducible rfl)
                          try simp only [Act.put, List.setIfInBounds_toArray, List.set_cons_zero, List.set_cons_succ]
                          refine st_run (i := 8) (v := ?vg8) rfl (by kernel_rfl) (by kernel_rfl) (by kernel_rfl) (by kernel_rfl) (fun _ _ _ h => h) (by rfl) ?yg8 (by assumption) ?rg8
                          case yg8 => (intro w hSw; (try dsimp only at hSw); go_simp; try with_reducible rfl)
                          try simp only [Act.put, List.setIfInBounds_toArray, List.set_cons_zero, List.set_cons_succ]
                          refine st_pure (i := 9) (v := ?vg9) rfl (by kernel_rfl) (by kernel_rfl) (by kernel_rfl) (by kernel_rfl) (fun _ _ _ h => h) (by rfl) ?yg9 (.inl (by assumption)) ?rg9
                          case yg9 => (intro w; go_simp; try with_reducible rfl)
                          try simp only [Act.put, List.setIfInBounds_toArray, List.set_cons_zero, List.set_cons_succ]
                          refine st_run (i := 10) (v := ?vg10) rfl (by kernel_rfl) (by kernel_rfl) (by kernel_rfl) (by kernel_rfl) (fun _ _ _ h => h) (by rfl) ?yg10 (by assumption) ?rg10
                          case yg10 => (intro w hSw; (try dsimp only at hSw); go_simp; try with_reducible rfl)
                          try simp only [Act.put, List.setIfInBounds_toArray, List.set_cons_zero, List.set_cons_succ]
                          refine st_pure (i := 11) (v := ?vg11) rfl (by kernel_rfl) (by kernel_rfl) (by kernel_rfl) (by kernel_rfl) (fun _ _ _ h => h) (by rfl) ?yg11 (.inl (by assumption)) ?rg11
                          case yg11 => (intro w; go_simp; try with_reducible rfl)
                          try simp only [Act.put, List.setIfInBounds_toArray, List.set_cons_zero, List.set_cons_succ]
                          refine st_run (i := 12) (v := ?vg12) rfl (by kernel_rfl) (by kernel_rfl) (by kernel_rfl) (by kernel_rfl) (fun _ _ _ h => h) (by rfl) ?yg12 (by assumption) ?rg12
                          case yg12 => (intro w hSw; (try dsimp only at hSw); go_simp; try with_reducible rfl)
                          try simp only [Act.put, List.setIfInBounds_toArray, List.set_cons_zero, List.set_cons_succ]
                          refine st_pure (i := 13) (v := ?vg13) rfl (by kernel_rfl) (by kernel_rfl) (by kernel_rfl) (by kernel_rfl) (fun _ _ _ h => h) (by rfl) ?yg13 (.inl (by assumption)) ?rg13
                          case yg13 => (intro w; go_simp; try with_reducible rfl)
                          try simp only [Act.put, List.setIfInBounds_toArray, List.set_cons_zero, List.set_cons_succ]
                          refine st_late (i := 14) rfl (by kernel_rfl) (by rfl) (by kernel_rfl) (fun Kq hK => ?_)
                          go_simp
                          refine hK.out _ _ ?_
                          clear hK Kq
                          try simp only [Act.put, List.setIfInBounds_toArray, List.set_cons_zero, List.set_cons_succ]
                          refine wpAnyD_done (by kernel_rfl) ?_ _
                          refine NoPanic.normal ?_
                          go_wp2_with fail
                          go_roundw
                          case rel => exact ⟨j + 1, nm + 1, hjn, by go_num, by have := HNi.out; omega, HM9.out, HK9.out⟩
                          case measure => simp [intOf]; omega
                        · have e1 : ((prt.length : Int) == 2) = false := by simp; omega
                          have HMs : Hid (PairM w2 MB nm (fun l' a b => PairX N ps l (j + 1) l' a b)) := Lib.hid (HM2.out.iff (fun l' a b _ _ _ => (PairX.skip HPart.out (.inr hpt)).symm))
                          go_quiet (fail)
                          go_wp2_with fail
                          go_roundw
                          case rel => exact ⟨j + 1, nm, hjn, by go_num, by have := HNi.out; omega, HMs.out.below (bdrewN (Below.refl _ _)), HK2.out.below (bdrewN (Below.refl _ _))⟩
                          case measure => simp [intOf]; omega
                    · have hjj : j = ps.length := by omega
                      have HMs : Hid (PairM wi MB nm (fun l' a b => PairX N ps (l + 1) 0 l' a b)) := Lib.hid (HMi.out.iff (fun l' a b _ _ _ => by rw [hjj, PairX.full, PairX.zero]))
                      clear hjj
                      go_wp2_with fail
                      go_roundw
                      case rel => exact ⟨l + 1, nm, hln, by go_num, by have := HNi.out; omega, HMs.out, HKi.out⟩
                      case measure => simp [intOf]; omega
                · have hll : l = N := by omega
                  have hFin : PairM wg MB nm (fun l' a b => 0 ≤ l' ∧ l' < (N : Int) ∧ PairIn N ps ps l' a b) := HMg.out.iff (fun l' a b _ _ _ => by rw [hll, PairX.zero])
                  have HFin := Lib.hid hFin
                  have f1 : wg.cell? ⟨FB, 0, none⟩ = some (.pointer (some ⟨P, 0, none⟩)) := HFg.out.cell 0
                  have zFe : FB < wg.heap.size := HFg.out.lt
                  clear hFin hll
                  go_wp2
                  go_ret
                  have hnb : ∀ b ∈ bf :: bs, ¬ b = MB := fun b hb e => by have := HGe.out b hb; have := HZ.out; have := HPz.out; have := HZc.out; have := HZd.out; omega
                  have hz1 := HKe.out.size
                  have hz2 := HKg.out.size
                  have eN : N = leafN n rs + m := by rw [HN.out, HLf.out]
                  have eps := HPs.out
                  have elf := HLf.out
                  have ere := HRest.out
                  have hR := HRw.out.kept HKg.out hnb
                  have hNl := HNe.out.kept HKg.out (show ¬ NB = MB by have := HZ.out; have := HPz.out; omega)
                  have hE1 : Els wg (fun b => w.heap.size ≤ b ∧ b < wg.heap.size ∧ b ≠ P) rest AR := (HRe.out.kept HKg.out (fun b hb e => by have := hb.1; have := HPz.out; have := HZ.out; omega)).keep (fun _ _ _ => rfl) (fun b hb => by have h1 := hb.1; have h2 := hb.2; have := HZ.out; have := HPz.out; have := HZc.out; have := HZd.out; exact ⟨by omega, by omega, by omega⟩)
                  have hE2 : Els wg (fun b => w.heap.size ≤ b ∧ b < wg.heap.size ∧ b ≠ P) ps AP := (HEe.out.kept HKg.out (fun b hb e => by have := hb.1; have := HPz.out; have := HZ.out; omega)).keep (fun _ _ _ => rfl) (fun b hb => by have h1 := hb.1; have h2 := hb.2; have := HZ.out; have := HPz.out; have := HZc.out; have := HZd.out; exact ⟨by omega, by omega, by omega⟩)
                  have hP9 := HPg.out
                  have hnr := HNul.out
                  have hgt := HGt.out
                  have hfin := HFin.out
                  have hbe : Below w.heap.size w wg := HBe.out.trans (HKg.out.to_below (B := w.heap.size) (fun b hb => by have := HZ.out; omega) HBe.out.size)
                  have hge9 : ∀ b ∈ P :: MB :: NB :: bf :: bs, w.heap.size ≤ b := fun b hb => by
                    simp only [List.mem_cons] at hb
                    have := HZ.out
                    have := HPz.out
                    have := HZc.out
                    have := HZd.out
                    rcases hb with rfl | rfl | rfl | hb
                    · omega
                    · omega
                    · omega
                    · have := HGe.out b (by simpa using hb)
                      omega
                  have hlr2 := hlr
                  have hlp2 := hlp
                  subst eN
                  subst eps
                  subst elf
                  subst ere
                  exact ⟨P, MB, NB, bf, cf, bs, nb0, f, rfl, ⟨⟨AR, cr, AP, cp, hP9, hE1, hlr2, hcr, hE2, hlp2, hcp⟩, hNl, hnr, hR, hgt, ⟨nm, hfin⟩, hge9⟩, hbe⟩
            · have HPd := Lib.hid (HPc.out.kept HKd.out (by have := HPz.out; omega))
              have HFd := Lib.hid (HFc.out.kept HKd.out (by have := HPz.out; have := HZ.out; omega))
              have f0 : wd.cell? ⟨FB, 0, none⟩ = some (.pointer (some ⟨P, 0, none⟩)) := HFd.out.cell 0
              have p7 : wd.cell? ⟨P, 7, none⟩ = some (.slice AP ps.length cp) := HPd.out.cell 7
              have zF : FB < wd.heap.size := HFd.out.lt
              have zP : P < wd.heap.size := HPd.out.lt
              go_wp2_with fail
              clear f0 p7 zF zP
              go_loopw [8, 99] (fun ag i wr => ∃ (j : Nat) (nb : List Bool) (b : Bool), j ≤ ps.length ∧ ag = .bool b ∧ i = .int .i64 j ∧ Blk' wr NB 4 (bcells nb) ∧ NuI N ps nb0 j nb b ∧ Kept (fun b => b = NB) wc wr) (fun _ i _ => ps.length - (intOf i).toNat)
              case atStart => exact ⟨0, nb0, false, Nat.zero_le _, rfl, rfl, HNd.out, NuI.start HSd.out, HKd.out⟩
              case round =>
                obtain ⟨wi, hwi⟩ : ∃ wi : World, wi = wr := ⟨_, rfl⟩
                subst hwi
                obtain ⟨j, nb, b, hj, rfl, rfl, hNi, hI, hKi⟩ := hrel
                have HNi := Lib.hid hNi
                have HI := Lib.hid hI
                have HKi := Lib.hid hKi
                clear hNi hI hKi
                by_cases hjn : j < ps.length
                · obtain ⟨p, hp⟩ := get_some hjn
                  have hEw := HEc.out.kept HKi.out (fun b hb e => by have := hb.2; have := HZc.out; omega)
                  obtain ⟨bp, op, Ar, cr', eAP, hSb, hbl, hi1, hi2, hrl, hcr2, hEr, c0, c1, c2, c3⟩ := hEw.part hp
                  subst eAP
                  have HPart := Lib.hid hp
                  have hpo := HOk.out p (List.mem_of_getElem? hp)
                  have HPo := Lib.hid hpo
                  obtain ⟨pl, pr, prt, pwh⟩ := p
                  dsimp only at hi1 hi2 hrl hcr2 hEr c0 c1 c2 c3 hpo
                  obtain ⟨a0, rfl⟩ : ∃ a : Nat, pl = (a : Int) := ⟨pl.toNat, by have := hpo.1; dsimp only at this; omega⟩
                  have ha0 : a0 < N := by have := hpo.1; dsimp only at this; omega
                  have hp2 : prt.length ≤ 2 := hpo.2.1
                  have HIn : Hid (∀ m ∈ prt, 0 ≤ m ∧ m < (N : Int)) := Lib.hid hpo.2.2
                  have hj0 : (0 : Int) ≤ (j : Int) := by omega
                  have hj9 : (j : Int) < (ps.length : Int) := by omega
                  obtain ⟨x, hx⟩ := get_some (show a0 < nb.length by rw [HI.out.s.len]; exact ha0)
                  have HXv : Hid (nbAt nb (a0 : Int) = x) := Lib.hid (by unfold nbAt; rw [List.getD_eq_getElem?_getD, Int.toNat_natCast, hx]; rfl)
                  obtain ⟨w2, hw2⟩ : ∃ w2 : World, w2 = wi.alloc (.cells #[.int .i64 (a0 : Int), .int .i64 pr, .slice Ar prt.length cr', .bool pwh] 169) := ⟨_, rfl⟩
                  have HW2 := Lib.hid hw2
                  have hb2 : Below wi.heap.size wi w2 := by rw [hw2]; exact (Below.refl _ _).alloc (Nat.le_refl _) _
                  have HX2 : Hid (Blk' w2 wi.heap.size 169 #[.int .i64 (a0 : Int), .int .i64 pr, .slice Ar prt.length cr', .bool pwh]) := Lib.hid (by rw [hw2]; exact Blk'.new _ _ _)
                  have HN2 := Lib.hid (HNi.out.below hb2 HNi.out.lt)
                  have HP2 := Lib.hid ((HPc.out.kept HKi.out (by have := HPz.out; omega)).below hb2 (HPc.out.kept HKi.out (by have := HPz.out; omega)).lt)
                  have HF2 := Lib.hid ((HFc.out.kept HKi.out (by have := HPz.out; have := HZ.out; omega)).below hb2 (HFc.out.kept HKi.out (by have := HPz.out; have := HZ.out; omega)).lt)
                  have HK2 := Lib.hid (HKi.out.below hb2)
                  obtain ⟨SP, hSP⟩ : ∃ SP : Nat → Prop, SP = (fun b => wb.heap.size ≤ b ∧ b < wo.heap.size) := ⟨_, rfl⟩
                  rw [← hSP] at hEr
                  have HEr2 := Lib.hid (hEr.below hb2)
                  have n0 : w2.cell? ⟨NB, a0, none⟩ = some (.bool x) := (HN2.out.cell _).trans (bcells_get hx)
                  clear hp hpo hw2 hb2 hEr hEw hi1 hi2 hx hSP
                  go_upto_region 27 with (fail)
                  rw [← HW2.out]
                  have x0 : w2.cell? ⟨wi.heap.size, 0, none⟩ = some (.int .i64 (a0 : Int)) := HX2.out.cell 0
                  have x2 : w2.cell? ⟨wi.heap.size, 2, none⟩ = some (.slice Ar prt.length cr') := HX2.out.cell 2
                  have f0 : w2.cell? ⟨FB, 0, none⟩ = some (.pointer (some ⟨P, 0, none⟩)) := HF2.out.cell 0
                  have p8 : w2.cell? ⟨P, 8, none⟩ = some (.slice (some ⟨NB, 0, none⟩) N N) := HP2.out.cell 8
                  have zX : wi.heap.size < w2.heap.size := HX2.out.lt
                  have zF : FB < w2.heap.size := HF2.out.lt
                  have zP : P < w2.heap.size := HP2.out.lt
                  have zN : NB < w2.heap.size := HN2.out.lt
                  have HC0 := Lib.hid (And.intro f0 p8)
                  have HCz : Hid (FB < w2.heap.size ∧ P < w2.heap.size) := Lib.hid ⟨zF, zP⟩
                  have ha9 : (a0 : Int) < (N : Int) := by omega
                  have ha00 : (0 : Int) ≤ (a0 : Int) := by omega
                  clear c0 c1 c2 c3 hbl hSb HW2 hj0 hj9
                  cases x
                  · go_wp2_with fail
                    refine wp_region_noPanic ?_
                    refine wp_region_held_drew (S := (fun w' => w'.cell? ⟨FB, 0, none⟩ = some (.pointer (some ⟨P, 0, none⟩)) ∧ w'.cell? ⟨P, 8, none⟩ = some (.slice (some ⟨NB, 0, none⟩) N N) ∧ w'.cell? ⟨wi.heap.size, 0, none⟩ = some (.int .i64 (a0 : Int)) ∧ w'.cell? ⟨wi.heap.size, 2, none⟩ = some (.slice Ar prt.length cr') ∧ w'.cell? ⟨NB, a0, none⟩ = some (.bool false))) (by kernel_rfl) ?he (fun hHeld => ?be)
                    case he => ((try dsimp only); go_keep)
                    refine take_run (i := 0) (v := ?ve0) rfl (by kernel_rfl) (by kernel_rfl) (by kernel_rfl) (fun _ _ _ h => h) (by rfl) ?ye0 (by assumption) ?re0
                    case ye0 => (intro w hSw; (try dsimp only at hSw); go_simp; try with_reducible rfl)
                    try simp only [Act.put, List.setIfInBounds_toArray, List.set_cons_zero, List.set_cons_succ]
                    refine take_run (i := 1) (v := ?ve1) rfl (by kernel_rfl) (by kernel_rfl) (by kernel_rfl) (fun _ _ _ h => h) (by rfl) ?ye1 (by assumption) ?re1
                    case ye1 => (intro w hSw; (try dsimp only at hSw); go_simp; try with_reducible rfl)
                    try simp only [Act.put, List.setIfInBounds_toArray, List.set_cons_zero, List.set_cons_succ]
                    refine take_run (i := 2) (v := ?ve2) rfl (by kernel_rfl) (by kernel_rfl) (by kernel_rfl) (fun _ _ _ h => h) (by rfl) ?ye2 (by assumption) ?re2
                    case ye2 => (intro w hSw; (try dsimp only at hSw); go_simp; try with_reducible rfl)
                    try simp only [Act.put, List.setIfInBounds_toArray, List.set_cons_zero, List.set_cons_succ]
                    refine take_run (i := 3) (v := ?ve3) rfl (by kernel_rfl) (by kernel_rfl) (by kernel_rfl) (fun _ _ _ h => h) (by rfl) ?ye3 (by assumption) ?re3
                    case ye3 => (intro w hSw; (try dsimp only at hSw); go_simp; try with_reducible rfl)
                    try simp only [Act.put, List.setIfInBounds_toArray, List.set_cons_zero, List.set_cons_succ]
                    refine take_run (i := 4) (v := ?ve4) rfl (by kernel_rfl) (by kernel_rfl) (by kernel_rfl) (fun _ _ _ h => h) (by rfl) ?ye4 (by assumption) ?re4
                    case ye4 => (intro w hSw; (try dsimp only at hSw); go_simp; try with_reducible rfl)
                    try simp only [Act.put, List.setIfInBounds_toArray, List.set_cons_zero, List.set_cons_succ]
                    refine take_run (i := 5) (v := ?ve5) rfl (by kernel_rfl) (by kernel_rfl) (by kernel_rfl) (fun _ _ _ h => h) (by rfl) ?ye5 (by assumption) ?re5
                    case ye5 => (intro w hSw; (try dsimp only at hSw); go_simp; try with_reducible rfl)
                    try simp only [Act.put, List.setIfInBounds_toArray, List.set_cons_zero, List.set_cons_succ]
                    refine take_run (i := 6) (v := ?ve6) rfl (by kernel_rfl) (by kernel_rfl) (by kernel_rfl) (fun _ _ _ h => h) (by rfl) ?ye6 (by assumption) ?re6
                    case ye6 => (intro w hSw; (try dsimp only at hSw); go_simp; try with_reducible rfl)
                    try simp only [Act.put, List.setIfInBounds_toArray, List.set_cons_zero, List.set_cons_succ]
                    refine take_run (i := 7) (v := ?ve7) rfl (by kernel_rfl) (by kernel_rfl) (by kernel_rfl) (fun _ _ _ h => h) (by rfl) ?ye7 (by assumption) ?re7
                    case ye7 => (intro w hSw; (try dsimp only at hSw); go_simp; try with_reducible rfl)
                    try simp only [Act.put, List.setIfInBounds_toArray, List.set_cons_zero, List.set_cons_succ]
                    refine take_run (i := 8) (v := ?ve8) rfl (by kernel_rfl) (by kernel_rfl) (by kernel_rfl) (fun _ _ _ h => h) (by rfl) ?ye8 (by assumption) ?re8
                    case ye8 => (intro w hSw; (try dsimp only at hSw); go_simp; try with_reducible rfl)
                    try simp only [Act.put, List.setIfInBounds_toArray, List.set_cons_zero, List.set_cons_succ]
                    refine take_run (i := 9) (v := ?ve9) rfl (by kernel_rfl) (by kernel_rfl) (by kernel_rfl) (fun _ _ _ h => h) (by rfl) ?ye9 (by assumption) ?re9
                    case ye9 => (intro w hSw; (try dsimp only at hSw); go_simp; try with_reducible rfl)
                    try simp only [Act.put, List.setIfInBounds_toArray, List.set_cons_zero, List.set_cons_succ]
                    refine take_run (i := 10) (v := ?ve10) rfl (by kernel_rfl) (by kernel_rfl) (by kernel_rfl) (fun _ _ _ h => h) (by rfl) ?ye10 (by assumption) ?re10
                    case ye10 => (intro w hSw; (try dsimp only at hSw); go_simp; try with_reducible rfl)
                    try simp only [Act.put, List.setIfInBounds_toArray, List.set_cons_zero, List.set_cons_succ]
                    refine take_run (i := 11) (v := ?ve11) rfl (by kernel_rfl) (by kernel_rfl) (by kernel_rfl) (fun _ _ _ h => h) (by rfl) ?ye11 (by assumption) ?re11
                    case ye11 => (intro w hSw; (try dsimp only at hSw); go_simp; try with_reducible rfl)
                    try simp only [Act.put, List.setIfInBounds_toArray, List.set_cons_zero, List.set_cons_succ]
                    refine take_run (i := 12) (v := ?ve12) rfl (by kernel_rfl) (by kernel_rfl) (by kernel_rfl) (fun _ _ _ h => h) (by rfl) ?ye12 (by assumption) ?re12
                    case ye12 => (intro w hSw; (try dsimp only at hSw); go_simp; try with_reducible rfl)
                    try simp only [Act.put, List.setIfInBounds_toArray, List.set_cons_zero, List.set_cons_succ]
                    refine take_call (i := 13) rfl (by kernel_rfl) (by rfl) (fun Kq hK => ?_)
                    go_simp
                    go_at_call 90
                    refine (contInt_n Ar prt.length cr' prt rfl SP w2.drew 104 #[.pointer (some ⟨FB, 0, none⟩)] (fun x => !nbAt nb x) (by omega) (HEr2.out.below (Below.refl _ _).drew) nul1_go (fun x W hx hW' => (fun hW : Below w2.heap.size w2 W => nul1_any FB P NB N nb x W ((hW.cell (p := ⟨FB, 0, none⟩) HCz.out.1).trans HC0.out.1) ((hW.cell (p := ⟨P, 8, none⟩) HCz.out.2).trans HC0.out.2) (HN2.out.below hW HN2.out.lt) HI.out.s.len (HIn.out x hx) ⟨Nat.lt_of_lt_of_le HCz.out.1 hW.size, Nat.lt_of_lt_of_le HCz.out.2 hW.size⟩ (by omega)) (bundrew hW'))).mono ?_
                    rintro e w4 ⟨rfl, hb4⟩
                    replace hb4 : Below w2.heap.size w2 w4 := bundrew hb4
                    have HB4 := Lib.hid hb4
                    have f0b : w4.cell? ⟨FB, 0, none⟩ = some (.pointer (some ⟨P, 0, none⟩)) := (hb4.cell (p := ⟨FB, 0, none⟩) zF).trans f0
                    have p8b : w4.cell? ⟨P, 8, none⟩ = some (.slice (some ⟨NB, 0, none⟩) N N) := (hb4.cell (p := ⟨P, 8, none⟩) zP).trans p8
                    have x0b : w4.cell? ⟨wi.heap.size, 0, none⟩ = some (.int .i64 (a0 : Int)) := (hb4.cell (p := ⟨wi.heap.size, 0, none⟩) zX).trans x0
                    have x2b : w4.cell? ⟨wi.heap.size, 2, none⟩ = some (.slice Ar prt.length cr') := (hb4.cell (p := ⟨wi.heap.size, 2, none⟩) zX).trans x2
                    have n0b : w4.cell? ⟨NB, a0, none⟩ = some (.bool false) := (hb4.cell (p := ⟨NB, a0, none⟩) zN).trans n0
                    obtain ⟨an, han⟩ : ∃ an, an = prt.any (fun x => !nbAt nb x) := ⟨_, rfl⟩
                    rw [← han]
                    have HAn := Lib.hid han
                    clear han hb4
                    refine hK.out _ _ ?he13 (fun hHeld => ?re13)
                    case he13 => ((try dsimp only); go_keep)
                    clear hK Kq
                    try simp only [Act.put, List.setIfInBounds_toArray, List.set_cons_zero, List.set_cons_succ]
                    refine take_run (i := 14) (v := ?ve14) rfl (by kernel_rfl) (by kernel_rfl) (by kernel_rfl) (fun _ _ _ h => h) (by rfl) ?ye14 (by assumption) ?re14
                    case ye14 => (intro w hSw; (try dsimp only at hSw); go_simp; try with_reducible rfl)
                    try simp only [Act.put, List.setIfInBounds_toArray, List.set_cons_zero, List.set_cons_succ]
                    refine take_run (i := 15) (v := ?ve15) rfl (by kernel_rfl) (by kernel_rfl) (by kernel_rfl) (fun _ _ _ h => h) (by rfl) ?ye15 (by assumption) ?re15
                    case ye15 => (intro w hSw; (try dsimp only at hSw); go_simp; try with_reducible rfl)
                    try simp only [Act.put, List.setIfInBounds_toArray, List.set_cons_zero, List.set_cons_succ]
                    refine wpAnyH_done (by kernel_rfl) ?_ _
                    refine NoPanic.normal ?_
                    have HN4 := Lib.hid (HN2.out.below HB4.out HN2.out.lt)
                    have HK4 := Lib.hid (HK2.out.below HB4.out)
                    have zP4 : P < w4.heap.size := Nat.lt_of_lt_of_le zP HB4.out.size
                    have zN4 : NB < w4.heap.size := HN4.out.lt
                    have zX4 : wi.heap.size < w4.heap.size := Nat.lt_of_lt_of_le zX HB4.out.size
                    have fn4 := HN4.out.frozen a0
                    cases an
                    · have hall : prt.all (nbAt nb) = true := by rw [List.all_eq_not_any_not, ← HAn.out]; rfl
                      have HIs := Lib.hid (HI.out.set HPart.out HPo.out HXv.out hall)
                      rw [Int.toNat_natCast] at HIs
                      clear hall
                      go_wp2_with fail
                      refine wp_region_noPanic ?_
                      refine stage_start (S := (fun w' => w'.cell? ⟨FB, 0, none⟩ = some (.pointer (some ⟨P, 0, none⟩)) ∧ w'.cell? ⟨P, 8, none⟩ = some (.slice (some ⟨NB, 0, none⟩) N N) ∧ w'.cell? ⟨wi.heap.size, 0, none⟩ = some (.int .i64 (a0 : Int)))) 7 (by kernel_rfl) ?hf (fun hHeld => ?bf)
                      case hf => ((try dsimp only); go_keep)
                      refine st_run (i := 0) (v := ?vf0) rfl (by kernel_rfl) (by kernel_rfl) (by kernel_rfl) (by kernel_rfl) (fun _ _ _ h => h) (by rfl) ?yf0 (by assumption) ?rf0
                      case yf0 => (intro w hSw; (try dsimp only at hSw); go_simp; try with_reducible rfl)
                      try simp only [Act.put, List.setIfInBounds_toArray, List.set_cons_zero, List.set_cons_succ]
                      refine st_pure (i := 1) (v := ?vf1) rfl (by kernel_rfl) (by kernel_rfl) (by kernel_rfl) (by kernel_rfl) (fun _ _ _ h => h) (by rfl) ?yf1 (.inl (by assumption)) ?rf1
                      case yf1 => (intro w; go_simp; try with_reducible rfl)
                      try simp only [Act.put, List.setIfInBounds_toArray, List.set_cons_zero, List.set_cons_succ]
                      refine st_pure (i := 2) (v := ?vf2) rfl (by kernel_rfl) (by kernel_rfl) (by kernel_rfl) (by kernel_rfl) (fun _ _ _ h => h) (by rfl) ?yf2 (.inl (by assumption)) ?rf2
                      case yf2 => (intro w; go_simp; try with_reducible rfl)
                      try simp only [Act.put, List.setIfInBounds_toArray, List.set_cons_zero, List.set_cons_succ]
                      refine st_run (i := 3) (v := ?vf3) rfl (by kernel_rfl) (by kernel_rfl) (by kernel_rfl) (by kernel_rfl) (fun _ _ _ h => h) (by rfl) ?yf3 (by assumption) ?rf3
                      case yf3 => (intro w hSw; (try dsimp only at hSw); go_simp; try with_reducible rfl)
                      try simp only [Act.put, List.setIfInBounds_toArray, List.set_cons_zero, List.set_cons_succ]
                      refine st_pure (i := 4) (v := ?vf4) rfl (by kernel_rfl) (by kernel_rfl) (by kernel_rfl) (by kernel_rfl) (fun _ _ _ h => h) (by rfl) ?yf4 (.inl (by assumption)) ?rf4
                      case yf4 => (intro w; go_simp; try with_reducible rfl)
                      try simp only [Act.put, List.setIfInBounds_toArray, List.set_cons_zero, List.set_cons_succ]
                      refine st_run (i := 5) (v := ?vf5) rfl (by kernel_rfl) (by kernel_rfl) (by kernel_rfl) (by kernel_rfl) (fun _ _ _ h => h) (by rfl) ?yf5 (by assumption) ?rf5
                      case yf5 => (intro w hSw; (try dsimp only at hSw); go_simp; try with_reducible rfl)
                      try simp only [Act.put, List.setIfInBounds_toArray, List.set_cons_zero, List.set_cons_succ]
                      refine st_pure (i := 6) (v := ?vf6) rfl (by kernel_rfl) (by kernel_rfl) (by kernel_rfl) (by kernel_rfl) (fun _ _ _ h => h) (by rfl) ?yf6 (.inl (by assumption)) ?rf6
                      case yf6 => (intro w; go_simp; try with_reducible rfl)
                      try simp only [Act.put, List.setIfInBounds_toArray, List.set_cons_zero, List.set_cons_succ]
                      refine st_late (i := 7) rfl (by kernel_rfl) (by rfl) (by kernel_rfl) (fun Kq hK => ?_)
                      go_simp
                      refine hK.out _ _ ?_
                      clear hK Kq
                      try simp only [Act.put, List.setIfInBounds_toArray, List.set_cons_zero, List.set_cons_succ]
                      refine st_late (i := 8) rfl (by kernel_rfl) (by rfl) (by kernel_rfl) (fun Kq hK => ?_)
                      go_simp
                      refine hK.out _ _ ?_
                      clear hK Kq
                      try simp only [Act.put, List.setIfInBounds_toArray, List.set_cons_zero, List.set_cons_succ]
                      refine wpAnyD_done (by kernel_rfl) ?_ _
                      refine NoPanic.normal ?_
                      go_wp2_with fail
                      have HN9 : Hid (Blk' (w4.setCell ⟨NB, a0, none⟩ (.bool true)).drew NB 4 (bcells (nb.set a0 true))) := Lib.hid (by rw [← bcells_set]; exact (HN4.out.set_ a0 _).drew)
                      have HK9 : Hid (Kept (fun b => b = NB) wc (w4.setCell ⟨NB, a0, none⟩ (.bool true)).drew) := Lib.hid (HK4.out.setCell (p := ⟨NB, a0, none⟩) (.inl rfl) _).drew
                      go_roundw
                      case rel => exact ⟨j + 1, _, true, hjn, rfl, by go_num, HN9.out, HIs.out, HK9.out⟩
                      case measure => simp [intOf]; omega
                    · have hall : prt.all (nbAt nb) = false := by rw [List.all_eq_not_any_not, ← HAn.out]; rfl
                      have HIs := Lib.hid (HI.out.skip HPart.out (.inr hall))
                      clear hall
                      go_wp2_with fail
                      go_roundw
                      case rel => exact ⟨j + 1, nb, b, hjn, rfl, by go_num, HN4.out, HIs.out, HK4.out⟩
                      case measure => simp [intOf]; omega
                  · go_quiet (fail)
                    have HIs := Lib.hid (HI.out.skip HPart.out (.inl HXv.out))
                    go_wp2_with fail
                    go_roundw
                    case rel => exact ⟨j + 1, nb, b, hjn, rfl, by go_num, HN2.out.drewN _, HIs.out, HK2.out.below (bdrewN (Below.refl _ _))⟩
                    case measure => simp [intOf]; omega
                · have hjj : j = ps.length := by omega
                  have HFin : Hid (b = false → NulRow N ps nb) := Lib.hid (fun hb => by have h := HI.out; rw [hjj, hb] at h; exact NulRow.of h HOk.out)
                  have HMs : Hid (nb.count false + (if b then 1 else 0) < gk) := Lib.hid (by
                    have h := HFa.out
                    have h2 := HI.out
                    cases b
                    · have := (h2.no rfl).1
                      subst this
                      simp at h ⊢
                      omega
                    · have := h2.yes rfl
                      simp at h ⊢
                      omega)
                  clear hjj
                  go_wp2_with fail
                  go_roundg (nb.count false + (if b then 1 else 0))
                  case rel => exact ⟨nb, b, rfl, HNi.out, HI.out.s, HFin.out, Nat.le_refl _, HKi.out⟩
                  case measure => exact HMs.out
end Go.Proofs.YtecofoilghdedaaDoor
