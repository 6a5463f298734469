/- The law GramSortedOnce: it returns true at every input. -/
import Derived.Test.YtnphbbhnfkjlcaaQSortedG
import Derived.Test.YtnphbbhnfkjlcaaQGSame
import Derived.Test.YtnphbbhnfkjlcaaQWorks
import Derived.Test.YtnphbbhnfkjlcaaQGrammar
import Derived.Test.YtnphbbhnfkjlcaaQApartP
import Derived.Test.YtnphbbhnfkjlcaaQp1
namespace Go.Proofs.Ytnphbbhnfkjlcaa
open Go.RowKit
set_option linter.unusedVariables false

def bcl (l : List Bool) : Array Value := (l.map Value.bool).toArray
theorem bcl_get {l : List Bool} {i : Nat} {x : Bool} (h : l[i]? = some x) : (bcl l)[i]? = some (.bool x) := by simp [bcl, h]
theorem bcl_set (l : List Bool) (i : Nat) (x : Bool) : (bcl l).setIfInBounds i (.bool x) = bcl (l.set i x) := by
  simp [bcl, List.map_set]
theorem mkBoolsB (n : Nat) (hn : n ≤ 1000000) (W : World) : (Instr.makeSlice 80 (.int .i64 (n : Int)) (.int .i64 (n : Int))).run Try.prog W = .ok (.slice (some ⟨W.heap.size, 0, none⟩) n n) (W.alloc (.cells (bcl (List.replicate n false)) 4)) := by
  obtain ⟨i0, hi, hz0, hz1, hz2⟩ := info_parts infoBool
  have h := run_makeSlice (P := Try.prog) W 80 4 i0 (.bool false) Try.underlying80 hi hz0 .i64 .i64 (n : Int) (n : Int) (by omega) (Int.le_refl _) (by rw [hz1]; simp; omega) (by rw [hz2]; omega) (by omega)
  rw [h, hz1]
  simp only [Int.toNat_natCast]
  have e : madeCells (Value.bool false).cells (n * 1) = bcl (List.replicate n false) := by
    apply Array.ext'
    show (madeCells #[Value.bool false] (n * 1)).toList = _
    rw [toList_madeCells_one]
    simp [bcl]
  rw [e]

/-! ### Plain -/
theorem perm_range {n : Nat} {ys : List Int} (h : ys.Perm (idxL n)) {m : Nat} {y : Int} (hy : ys[m]? = some y) : ∃ k : Nat, y = (k : Int) ∧ k < n := by
  obtain ⟨k, hk, rfl⟩ := List.mem_map.1 (h.subset (List.mem_of_getElem? hy))
  exact ⟨k, rfl, List.mem_range.1 hk⟩
theorem map_idx (rs : List Rule) : (idxL rs.length).map (ruleAt rs) = rs := by
  apply List.ext_getElem?
  intro i
  unfold idxL
  rw [List.map_map, List.getElem?_map]
  by_cases h : i < rs.length
  · rw [List.getElem?_range h]
    show some (ruleAt rs (i : Int)) = _
    rw [ruleAt_get (List.getElem?_eq_getElem h), List.getElem?_eq_getElem h]
  · rw [List.getElem?_eq_none (by simp; omega), List.getElem?_eq_none (by omega)]
    rfl
theorem sorted_pair {rs : List Rule} {ys : List Int} (h : SortedTo (ltAt rs) ys (ys.length - 1)) : (ys.map (ruleAt rs)).Pairwise (fun a b => ltRule a b = true) := by
  rw [List.pairwise_map, List.pairwise_iff_getElem]
  intro i j hi hj hij
  exact h i j _ _ hij (by omega) (List.getElem?_eq_getElem hi) (List.getElem?_eq_getElem hj)
theorem sorted_made {t n s : Int} {rs : List Rule} {ys : List Int} (h : Made ⟨t, n, s, rs⟩) (hp : ys.Perm (idxL rs.length)) : (ys.map (ruleAt rs)).Perm rs ∧ Made ⟨t, n, s, ys.map (ruleAt rs)⟩ := by
  have hp2 : (ys.map (ruleAt rs)).Perm rs := by
    have h1 := hp.map (ruleAt rs)
    rw [map_idx] at h1
    exact h1
  obtain ⟨h1, h2, h3, h4, h5, h6, h7, h8, h9, h10⟩ := h
  exact ⟨hp2, h1, h2, h3, h4, h5, h6, by rw [hp2.length_eq]; exact h7, by rw [hp2.length_eq]; exact h8, hp2.nodup_iff.2 h9, fun r hr => h10 r (hp2.subset hr)⟩
/-- Sorting what is sorted. -/
theorem sorted_again {t n s : Int} {rs : List Rule} {ys zs : List Int} (h : Made ⟨t, n, s, rs⟩) (hp : ys.Perm (idxL rs.length)) (hs : SortedTo (ltAt rs) ys (rs.length - 1)) (hp2 : zs.Perm (idxL (ys.map (ruleAt rs)).length)) (hs2 : SortedTo (ltAt (ys.map (ruleAt rs))) zs ((ys.map (ruleAt rs)).length - 1)) : zs.map (ruleAt (ys.map (ruleAt rs))) = ys.map (ruleAt rs) := by
  have hl : ys.length = rs.length := by rw [hp.length_eq, idxL_len]
  have hl2 : zs.length = (ys.map (ruleAt rs)).length := by rw [hp2.length_eq, idxL_len]
  obtain ⟨_, hm⟩ := sorted_made h hp
  obtain ⟨h3, _⟩ := sorted_made hm hp2
  exact sorted_one _ _ (sorted_pair (by rw [hl2]; exact hs2)) (sorted_pair (by rw [hl]; exact hs)) h3

set_option maxRecDepth 100000 in
set_option maxHeartbeats 4000000 in
theorem gramSortedOnce_any (A : Option Addr) (c : Nat) (xs : List Int) (S : Nat → Prop) (w : World) (h1 : xs.length ≤ c) (h2 : c ≤ 9223372036854775807) (hA : Els w S xs A) (hS : ∀ b, S b → b < w.heap.size) :
    Calls Try.prog 9 #[.slice A xs.length c] w fun e w' => e = .returned (.bool true) ∧ Below w.heap.size w w' := by
  have HGr := Lib.hid (grammar_any A c xs S w h1 h2 hA hS)
  clear hA hS
  go_enter Try.func9, Try.ntmps9
  go_wp2_with fail
  refine HGr.out.mono ?_
  rintro e w1 ⟨g, vg, hmade, rfl, hvg, hb1⟩
  obtain ⟨sg, rfl, hg1, hg2, hg3, hsg⟩ := hvg.gram
  obtain ⟨Ar, cr, rfl, hr1, hr2, hEr⟩ := hsg.slice
  obtain ⟨t, n, s, rs⟩ := g
  dsimp only at *
  have HMd := Lib.hid hmade
  have hck := made_check hmade
  have hlen1 : 1 ≤ rs.length := hmade.2.2.2.2.2.2.1
  have hlen8 : rs.length ≤ 8 := hmade.2.2.2.2.2.2.2.1
  have HNd := Lib.hid (show rs.Nodup from hmade.2.2.2.2.2.2.2.2.1)
  have HRr := Lib.hid (show ∀ q ∈ rs, q.right.length ≤ 1000 from fun q hq => by have h3 := (hmade.2.2.2.2.2.2.2.2.2 q hq).2.2.1; omega)
  obtain ⟨w2, hw2⟩ : ∃ w2 : World, w2 = w1.alloc (.cells #[.int .i64 t, .int .i64 n, .int .i64 s, .slice Ar rs.length cr] 49) := ⟨_, rfl⟩
  have HW2 := Lib.hid hw2
  have hb2 : Below w1.heap.size w1 w2 := by rw [hw2]; exact (Below.refl _ _).alloc (Nat.le_refl _) _
  have HG2 : Hid (Blk' w2 w1.heap.size 49 #[.int .i64 t, .int .i64 n, .int .i64 s, .slice Ar rs.length cr]) := Lib.hid (by rw [hw2]; exact Blk'.new w1 _ _)
  have HE2 := Lib.hid (hEr.below hb2)
  have HB2 := Lib.hid (bthen hb1 hb2 hb1.size)
  have hz12 : w1.heap.size < w2.heap.size := HG2.out.lt
  have HSo := Lib.hid (sortedG_any t n s rs Ar cr _ w2 hck hlen1 (by omega) HNd.out HRr.out hr1 hr2 HE2.out (fun b hb => by have h3 := hb.2; omega))
  clear hmade hvg hsg hEr hb1 hb2 hw2 hck hg1 hg2 hg3
  go_wp2_with fail
  rw [← HW2.out]
  refine HSo.out.mono ?_
  rintro e w3 ⟨ys, gs, cs, go, co, rfl, hperm, hsort, ⟨hc1, hc2, hc3, hc4⟩, hEs, hEy, hb3⟩
  have hyl : ys.length = rs.length := by rw [hperm.length_eq, idxL_len]
  have HPm := Lib.hid (And.intro hperm hsort)
  obtain ⟨w4, hw4⟩ : ∃ w4 : World, w4 = w3.alloc (.cells #[.int .i64 t, .int .i64 n, .int .i64 s, .slice (some ⟨gs, 0, none⟩) rs.length cs] 49) := ⟨_, rfl⟩
  have HW4 := Lib.hid hw4
  have hb4 : Below w3.heap.size w3 w4 := by rw [hw4]; exact (Below.refl _ _).alloc (Nat.le_refl _) _
  have HS4 : Hid (Blk' w4 w3.heap.size 49 #[.int .i64 t, .int .i64 n, .int .i64 s, .slice (some ⟨gs, 0, none⟩) rs.length cs]) := Lib.hid (by rw [hw4]; exact Blk'.new w3 _ _)
  have hb24 := bthen hb3 hb4 hb3.size
  have HG4 := Lib.hid (HG2.out.below hb24 HG2.out.lt)
  have HE4 := Lib.hid (And.intro (HE2.out.below hb24) (And.intro (hEs.below hb4) (hEy.below hb4)))
  have HB4 := Lib.hid (bthen HB2.out hb24 HB2.out.size)
  have hz23 : w2.heap.size ≤ w3.heap.size := hb3.size
  have hz34 : w3.heap.size < w4.heap.size := HS4.out.lt
  clear hperm hsort hEs hEy hb3 hb4 hb24 hw4
  go_wp2_with fail
  rw [← HW4.out]
  refine (works_any w4).mono ?_
  rintro e w5 ⟨rfl, hb5⟩
  have hG5 := HG4.out.below hb5 HG4.out.lt
  have hS5 := HS4.out.below hb5 HS4.out.lt
  have HG5 := Lib.hid hG5
  have HS5 := Lib.hid hS5
  have HE5 := Lib.hid (And.intro (HE4.out.1.below hb5) (And.intro (HE4.out.2.1.below hb5) (HE4.out.2.2.below hb5)))
  have HB5 := Lib.hid (bthen HB4.out hb5 HB4.out.size)
  have hz45 : w4.heap.size ≤ w5.heap.size := hb5.size
  have g3 : w5.cell? ⟨w1.heap.size, 3, none⟩ = some (.slice Ar rs.length cr) := hG5.cell 3
  have s3 : w5.cell? ⟨w3.heap.size, 3, none⟩ = some (.slice (some ⟨gs, 0, none⟩) rs.length cs) := hS5.cell 3
  have zG5 : w1.heap.size < w5.heap.size := hG5.lt
  have zS5 : w3.heap.size < w5.heap.size := hS5.lt
  have hmk := mkBoolsB rs.length (by omega)
  have hself : (((rs.length : Nat) : Int) != ((rs.length : Nat) : Int)) = false := by simp
  obtain ⟨w6, hw6⟩ : ∃ w6 : World, w6 = w5.alloc (.cells (bcl (List.replicate rs.length false)) 4) := ⟨_, rfl⟩
  have HW6 := Lib.hid hw6
  have hb6 : Below w5.heap.size w5 w6 := by rw [hw6]; exact (Below.refl _ _).alloc (Nat.le_refl _) _
  have HN6 : Hid (Blk' w6 w5.heap.size 4 (bcl (List.replicate rs.length false))) := Lib.hid (by rw [hw6]; exact Blk'.new w5 _ _)
  have HG6 := Lib.hid (HG5.out.below hb6 HG5.out.lt)
  have HS6 := Lib.hid (HS5.out.below hb6 HS5.out.lt)
  have HE6 := Lib.hid (And.intro (HE5.out.1.below hb6) (And.intro (HE5.out.2.1.below hb6) (HE5.out.2.2.below hb6)))
  have HB6 := Lib.hid (bthen HB5.out hb6 HB5.out.size)
  have hz56 : w5.heap.size < w6.heap.size := HN6.out.lt
  clear hb5 hG5 hS5 hw6 hb6
  go_wp2_with fail
  rw [← HW6.out]
  clear g3 s3 hmk
  go_loopw [50] (fun v wr => ∃ (i : Nat) (bs : List Bool), i ≤ rs.length ∧ v = .int .i64 i ∧ Blk' wr w5.heap.size 4 (bcl bs) ∧ bs.length = rs.length ∧ (∀ (m : Nat) (y : Int), i ≤ m → ys[m]? = some y → bs[y.toNat]? = some false) ∧ Kept (fun b => b = w5.heap.size) w6 wr) (fun v _ => rs.length - (intOf v).toNat)
  case atStart => exact ⟨0, _, Nat.zero_le _, rfl, HN6.out, by simp, fun m y _ hy => by
    obtain ⟨k, rfl, hk⟩ := perm_range HPm.out.1 hy
    simp [hk], Kept.refl _ _⟩
  case round =>
    obtain ⟨wo, hwo⟩ : ∃ wo : World, wo = wr := ⟨_, rfl⟩
    subst hwo
    obtain ⟨i, bs, hi, rfl, hN, hbl, hfr, hk⟩ := hrel
    have HNo := Lib.hid hN
    have HFr := Lib.hid hfr
    have HKo := Lib.hid hk
    have hGo := HG6.out.kept hk (by omega)
    have hSo := HS6.out.kept hk (by omega)
    have hEo := And.intro (HE6.out.1.kept hk (fun b hb (e : b = w5.heap.size) => by have h3 := hb.2; omega)) (And.intro (HE6.out.2.1.kept hk (fun b hb (e : b = w5.heap.size) => by have h3 := hb.2; omega)) (HE6.out.2.2.kept hk (fun b hb (e : b = w5.heap.size) => by have h3 := hb.2; omega)))
    have HEo := Lib.hid hEo
    have HBo := Lib.hid (HB6.out.trans (hk.to_below (B := w.heap.size) (fun b (hb : b = w5.heap.size) => by have h3 := HB5.out.size; omega) HB6.out.size))
    have hzo : w6.heap.size ≤ wo.heap.size := hk.size
    have HGo := Lib.hid hGo
    have HSo2 := Lib.hid hSo
    have zG : w1.heap.size < wo.heap.size := hGo.lt
    have zS : w3.heap.size < wo.heap.size := hSo.lt
    have zN : w5.heap.size < wo.heap.size := hN.lt
    have g3 : wo.cell? ⟨w1.heap.size, 3, none⟩ = some (.slice Ar rs.length cr) := hGo.cell 3
    have s3 : wo.cell? ⟨w3.heap.size, 3, none⟩ = some (.slice (some ⟨gs, 0, none⟩) rs.length cs) := hSo.cell 3
    by_cases hlt : i < rs.length
    · obtain ⟨y, hy⟩ := get_some (show i < ys.length by omega)
      obtain ⟨kn, rfl, hkl⟩ := perm_range HPm.out.1 hy
      obtain ⟨q, hq⟩ := get_some hkl
      have hqa := ruleAt_get hq
      obtain ⟨bq, oq, Aq, cq, eA, hSq, hbq, hqi, hqc, hqm, hEq, qc0, qc1⟩ := hEo.1.rule hq
      subst eA
      have hsq : (ys.map (ruleAt rs))[i]? = some q := by rw [List.getElem?_map, hy, ← hqa]; rfl
      obtain ⟨bp, op, Ap, cp, eA, hSp, hbp, hpi, hpc, hpm, hEp, pc0, pc1⟩ := hEo.2.1.rule hsq
      injection eA with eA
      injection eA with e1 e2 _
      subst e1; subst e2
      obtain ⟨by_, oy, eA, _, hby, _, hyc⟩ := hEo.2.2.int hy
      injection eA with eA
      injection eA with e1 e2 _
      subst e1; subst e2
      have hyc2 : wo.cell? ⟨go, i, none⟩ = some (.int .i64 kn) := by simpa using hyc
      obtain ⟨ql, qr⟩ := q
      dsimp only at *
      have hfk := hfr i (kn : Int) (Nat.le_refl _) hy
      simp only [Int.toNat_natCast] at hfk
      have nc : wo.cell? ⟨w5.heap.size, kn, none⟩ = some (.bool false) := by rw [hN.cell]; exact bcl_get hfk
      have nf := hN.frozen kn
      have hi0 : (0 : Int) ≤ (i : Int) := by omega
      have hi1 : (i : Int) < (rs.length : Int) := by omega
      have hk0 : (0 : Int) ≤ (kn : Int) := by omega
      have hk1 : (kn : Int) < (rs.length : Int) := by omega
      have hd1 : decide ((kn : Int) < 0) = false := by simp
      have hd2 : decide ((rs.length : Int) ≤ (kn : Int)) = false := by simp; omega
      have hzq : ruleCmp ⟨ql, qr⟩ ⟨ql, qr⟩ = 0 := ruleCmp_zero.2 rfl
      have HQ := Lib.hid (And.intro (And.intro hqc hqm) (And.intro (And.intro hpc hpm) (And.intro hEq hEp)))
      have HY := Lib.hid hy
      have hqm9 : qr.length ≤ 9223372036854775807 := by omega
      have HBl := Lib.hid hbl
      have HFk := Lib.hid hfk
      have HQA := Lib.hid hqa
      clear hN hfr hk hGo hSo hEo hq hsq hSq hSp hqi hpi hEq hEp hqc hqm hpc hpm hfk hqa
      by_cases hi00 : i = 0
      · have hd3 : decide ((0 : Int) < (i : Int)) = false := by simp; omega
        have hile : i ≤ 0 := by omega
        clear hy hi00
        go_wp2_with fail
        have Nnc : wo.cell? ⟨w5.heap.size, kn, none⟩ = some (.bool false) := by simpa using nc
        have Ng3 : wo.cell? ⟨w1.heap.size, 3, none⟩ = some (.slice (some ⟨bq, oq, none⟩) rs.length cr) := by simpa using g3
        have Ns3 : wo.cell? ⟨w3.heap.size, 3, none⟩ = some (.slice (some ⟨gs, 0, none⟩) rs.length cs) := by simpa using s3
        have Nqc0 : wo.cell? ⟨bq, oq + kn * 2, none⟩ = some (.int .i64 ql) := by simpa using qc0
        have Nqc1 : wo.cell? ⟨bq, oq + kn * 2 + 1, none⟩ = some (.slice Aq qr.length cq) := by simpa using qc1
        have Npc0 : wo.cell? ⟨gs, i * 2, none⟩ = some (.int .i64 ql) := by simpa using pc0
        have Npc1 : wo.cell? ⟨gs, i * 2 + 1, none⟩ = some (.slice Ap qr.length cp) := by simpa using pc1
        refine wp_region_noPanic ?_
        refine wp_region_held_drew (S := (fun w' => w'.cell? ⟨w5.heap.size, kn, none⟩ = some (.bool false) ∧ w'.cell? ⟨w1.heap.size, 3, none⟩ = some (.slice (some ⟨bq, oq, none⟩) rs.length cr) ∧ w'.cell? ⟨w3.heap.size, 3, none⟩ = some (.slice (some ⟨gs, 0, none⟩) rs.length cs) ∧ w'.cell? ⟨bq, oq + kn * 2, none⟩ = some (.int .i64 ql) ∧ w'.cell? ⟨bq, oq + kn * 2 + 1, none⟩ = some (.slice Aq qr.length cq) ∧ w'.cell? ⟨gs, i * 2, none⟩ = some (.int .i64 ql) ∧ w'.cell? ⟨gs, i * 2 + 1, none⟩ = some (.slice Ap qr.length cp))) (by kernel_rfl) ?ha (fun hHeld => ?ba)
        case ha => ((try dsimp only); go_keep)
        refine take_run (i := 0) (v := ?va0) rfl (by kernel_rfl) (by kernel_rfl) (by kernel_rfl) (fun _ _ _ h => h) (by rfl) ?ya0 (by assumption) ?ra0
        case ya0 => (intro w hSw; (try dsimp only at hSw); go_simp; try with_reducible rfl)
        try simp only [Act.put, List.setIfInBounds_toArray, List.set_cons_zero, List.set_cons_succ]
        refine take_run (i := 1) (v := .bool false) rfl (by kernel_rfl) (by kernel_rfl) (by kernel_rfl) (fun _ _ _ h => h) (by rfl) ?ya1 (by assumption) ?ra1
        case ya1 => (intro w hSw; (try dsimp only at hSw); try go_simp; first | done | omega | (simp [hd1]; done) | trace_state)
        try simp only [Act.put, List.setIfInBounds_toArray, List.set_cons_zero, List.set_cons_succ]
        refine take_run (i := 2) (v := ?va2) rfl (by kernel_rfl) (by kernel_rfl) (by kernel_rfl) (fun _ _ _ h => h) (by rfl) ?ya2 (by assumption) ?ra2
        case ya2 => (intro w hSw; (try dsimp only at hSw); go_simp; try with_reducible rfl)
        try simp only [Act.put, List.setIfInBounds_toArray, List.set_cons_zero, List.set_cons_succ]
        refine take_run (i := 3) (v := ?va3) rfl (by kernel_rfl) (by kernel_rfl) (by kernel_rfl) (fun _ _ _ h => h) (by rfl) ?ya3 (by assumption) ?ra3
        case ya3 => (intro w hSw; (try dsimp only at hSw); go_simp; try with_reducible rfl)
        try simp only [Act.put, List.setIfInBounds_toArray, List.set_cons_zero, List.set_cons_succ]
        refine take_run (i := 4) (v := ?va4) rfl (by kernel_rfl) (by kernel_rfl) (by kernel_rfl) (fun _ _ _ h => h) (by rfl) ?ya4 (by assumption) ?ra4
        case ya4 => (intro w hSw; (try dsimp only at hSw); go_simp; try with_reducible rfl)
        try simp only [Act.put, List.setIfInBounds_toArray, List.set_cons_zero, List.set_cons_succ]
        refine take_run (i := 5) (v := ?va5) rfl (by kernel_rfl) (by kernel_rfl) (by kernel_rfl) (fun _ _ _ h => h) (by rfl) ?ya5 (by assumption) ?ra5
        case ya5 => (intro w hSw; (try dsimp only at hSw); go_simp; try with_reducible rfl)
        try simp only [Act.put, List.setIfInBounds_toArray, List.set_cons_zero, List.set_cons_succ]
        refine take_run (i := 6) (v := .bool false) rfl (by kernel_rfl) (by kernel_rfl) (by kernel_rfl) (fun _ _ _ h => h) (by rfl) ?ya6 (by assumption) ?ra6
        case ya6 => (intro w hSw; (try dsimp only at hSw); try go_simp; first | done | omega | (simp [hd2]; done) | trace_state)
        try simp only [Act.put, List.setIfInBounds_toArray, List.set_cons_zero, List.set_cons_succ]
        refine take_run (i := 7) (v := ?va7) rfl (by kernel_rfl) (by kernel_rfl) (by kernel_rfl) (fun _ _ _ h => h) (by rfl) ?ya7 (by assumption) ?ra7
        case ya7 => (intro w hSw; (try dsimp only at hSw); go_simp; try with_reducible rfl)
        try simp only [Act.put, List.setIfInBounds_toArray, List.set_cons_zero, List.set_cons_succ]
        refine take_run (i := 8) (v := ?va8) rfl (by kernel_rfl) (by kernel_rfl) (by kernel_rfl) (fun _ _ _ h => h) (by rfl) ?ya8 (by assumption) ?ra8
        case ya8 => (intro w hSw; (try dsimp only at hSw); go_simp; try with_reducible rfl)
        try simp only [Act.put, List.setIfInBounds_toArray, List.set_cons_zero, List.set_cons_succ]
        refine take_run (i := 9) (v := ?va9) rfl (by kernel_rfl) (by kernel_rfl) (by kernel_rfl) (fun _ _ _ h => h) (by rfl) ?ya9 (by assumption) ?ra9
        case ya9 => (intro w hSw; (try dsimp only at hSw); go_simp; try with_reducible rfl)
        try simp only [Act.put, List.setIfInBounds_toArray, List.set_cons_zero, List.set_cons_succ]
        refine take_run (i := 10) (v := ?va10) rfl (by kernel_rfl) (by kernel_rfl) (by kernel_rfl) (fun _ _ _ h => h) (by rfl) ?ya10 (by assumption) ?ra10
        case ya10 => (intro w hSw; (try dsimp only at hSw); go_simp; try with_reducible rfl)
        try simp only [Act.put, List.setIfInBounds_toArray, List.set_cons_zero, List.set_cons_succ]
        refine take_run (i := 11) (v := ?va11) rfl (by kernel_rfl) (by kernel_rfl) (by kernel_rfl) (fun _ _ _ h => h) (by rfl) ?ya11 (by assumption) ?ra11
        case ya11 => (intro w hSw; (try dsimp only at hSw); go_simp; try with_reducible rfl)
        try simp only [Act.put, List.setIfInBounds_toArray, List.set_cons_zero, List.set_cons_succ]
        refine take_run (i := 12) (v := ?va12) rfl (by kernel_rfl) (by kernel_rfl) (by kernel_rfl) (fun _ _ _ h => h) (by rfl) ?ya12 (by assumption) ?ra12
        case ya12 => (intro w hSw; (try dsimp only at hSw); go_simp; try with_reducible rfl)
        try simp only [Act.put, List.setIfInBounds_toArray, List.set_cons_zero, List.set_cons_succ]
        refine take_run (i := 13) (v := ?va13) rfl (by kernel_rfl) (by kernel_rfl) (by kernel_rfl) (fun _ _ _ h => h) (by rfl) ?ya13 (by assumption) ?ra13
        case ya13 => (intro w hSw; (try dsimp only at hSw); go_simp; try with_reducible rfl)
        try simp only [Act.put, List.setIfInBounds_toArray, List.set_cons_zero, List.set_cons_succ]
        refine take_run (i := 14) (v := ?va14) rfl (by kernel_rfl) (by kernel_rfl) (by kernel_rfl) (fun _ _ _ h => h) (by rfl) ?ya14 (by assumption) ?ra14
        case ya14 => (intro w hSw; (try dsimp only at hSw); go_simp; try with_reducible rfl)
        try simp only [Act.put, List.setIfInBounds_toArray, List.set_cons_zero, List.set_cons_succ]
        refine take_run (i := 15) (v := ?va15) rfl (by kernel_rfl) (by kernel_rfl) (by kernel_rfl) (fun _ _ _ h => h) (by rfl) ?ya15 (by assumption) ?ra15
        case ya15 => (intro w hSw; (try dsimp only at hSw); go_simp; try with_reducible rfl)
        try simp only [Act.put, List.setIfInBounds_toArray, List.set_cons_zero, List.set_cons_succ]
        refine take_run (i := 16) (v := ?va16) rfl (by kernel_rfl) (by kernel_rfl) (by kernel_rfl) (fun _ _ _ h => h) (by rfl) ?ya16 (by assumption) ?ra16
        case ya16 => (intro w hSw; (try dsimp only at hSw); go_simp; try with_reducible rfl)
        try simp only [Act.put, List.setIfInBounds_toArray, List.set_cons_zero, List.set_cons_succ]
        refine take_run (i := 17) (v := ?va17) rfl (by kernel_rfl) (by kernel_rfl) (by kernel_rfl) (fun _ _ _ h => h) (by rfl) ?ya17 (by assumption) ?ra17
        case ya17 => (intro w hSw; (try dsimp only at hSw); go_simp; try with_reducible rfl)
        try simp only [Act.put, List.setIfInBounds_toArray, List.set_cons_zero, List.set_cons_succ]
        refine take_run (i := 18) (v := ?va18) rfl (by kernel_rfl) (by kernel_rfl) (by kernel_rfl) (fun _ _ _ h => h) (by rfl) ?ya18 (by assumption) ?ra18
        case ya18 => (intro w hSw; (try dsimp only at hSw); go_simp; try with_reducible rfl)
        try simp only [Act.put, List.setIfInBounds_toArray, List.set_cons_zero, List.set_cons_succ]
        refine take_run (i := 19) (v := ?va19) rfl (by kernel_rfl) (by kernel_rfl) (by kernel_rfl) (fun _ _ _ h => h) (by rfl) ?ya19 (by assumption) ?ra19
        case ya19 => (intro w hSw; (try dsimp only at hSw); go_simp; try with_reducible rfl)
        try simp only [Act.put, List.setIfInBounds_toArray, List.set_cons_zero, List.set_cons_succ]
        refine take_run (i := 20) (v := ?va20) rfl (by kernel_rfl) (by kernel_rfl) (by kernel_rfl) (fun _ _ _ h => h) (by rfl) ?ya20 (by assumption) ?ra20
        case ya20 => (intro w hSw; (try dsimp only at hSw); go_simp; try with_reducible rfl)
        try simp only [Act.put, List.setIfInBounds_toArray, List.set_cons_zero, List.set_cons_succ]
        refine take_run (i := 21) (v := ?va21) rfl (by kernel_rfl) (by kernel_rfl) (by kernel_rfl) (fun _ _ _ h => h) (by rfl) ?ya21 (by assumption) ?ra21
        case ya21 => (intro w hSw; (try dsimp only at hSw); go_simp; try with_reducible rfl)
        try simp only [Act.put, List.setIfInBounds_toArray, List.set_cons_zero, List.set_cons_succ]
        refine take_run (i := 22) (v := ?va22) rfl (by kernel_rfl) (by kernel_rfl) (by kernel_rfl) (fun _ _ _ h => h) (by rfl) ?ya22 (by assumption) ?ra22
        case ya22 => (intro w hSw; (try dsimp only at hSw); go_simp; try with_reducible rfl)
        try simp only [Act.put, List.setIfInBounds_toArray, List.set_cons_zero, List.set_cons_succ]
        refine take_run (i := 23) (v := ?va23) rfl (by kernel_rfl) (by kernel_rfl) (by kernel_rfl) (fun _ _ _ h => h) (by rfl) ?ya23 (by assumption) ?ra23
        case ya23 => (intro w hSw; (try dsimp only at hSw); go_simp; try with_reducible rfl)
        try simp only [Act.put, List.setIfInBounds_toArray, List.set_cons_zero, List.set_cons_succ]
        refine take_run (i := 24) (v := ?va24) rfl (by kernel_rfl) (by kernel_rfl) (by kernel_rfl) (fun _ _ _ h => h) (by rfl) ?ya24 (by assumption) ?ra24
        case ya24 => (intro w hSw; (try dsimp only at hSw); go_simp; try with_reducible rfl)
        try simp only [Act.put, List.setIfInBounds_toArray, List.set_cons_zero, List.set_cons_succ]
        refine take_call (i := 25) rfl (by kernel_rfl) (by rfl) (fun Kq hK => ?_)
        go_simp
        go_at_call 40
        refine (compare_any ql ql Ap Aq cp cq qr qr _ wo.drew hqm9 hqm9 (((HQ.out.2.2.2.below (Below.refl wo.heap.size wo).drew)).keep (S' := fun b => b < wo.heap.size) (fun _ _ _ => rfl) (fun b hb => by have h3 := hb.2; show b < wo.heap.size; omega)) (((HQ.out.2.2.1.below (Below.refl wo.heap.size wo).drew)).keep (S' := fun b => b < wo.heap.size) (fun _ _ _ => rfl) (fun b hb => by have h3 := hb.2; show b < wo.heap.size; omega))).mono ?_
        rintro e wa ⟨rfl, hba⟩
        rw [hzq]
        have HBa := Lib.hid (bundrew hba)
        have hza : wo.heap.size ≤ wa.heap.size := HBa.out.size
        clear hba
        have anc : wa.cell? ⟨w5.heap.size, kn, none⟩ = some (.bool false) := (HBa.out.cell (p := ⟨w5.heap.size, kn, none⟩) (by show w5.heap.size < wo.heap.size; omega)).trans Nnc
        have ag3 : wa.cell? ⟨w1.heap.size, 3, none⟩ = some (.slice (some ⟨bq, oq, none⟩) rs.length cr) := (HBa.out.cell (p := ⟨w1.heap.size, 3, none⟩) (by show w1.heap.size < wo.heap.size; omega)).trans Ng3
        have as3 : wa.cell? ⟨w3.heap.size, 3, none⟩ = some (.slice (some ⟨gs, 0, none⟩) rs.length cs) := (HBa.out.cell (p := ⟨w3.heap.size, 3, none⟩) (by show w3.heap.size < wo.heap.size; omega)).trans Ns3
        have aqc0 : wa.cell? ⟨bq, oq + kn * 2, none⟩ = some (.int .i64 ql) := (HBa.out.cell (p := ⟨bq, oq + kn * 2, none⟩) (by show bq < wo.heap.size; omega)).trans Nqc0
        have aqc1 : wa.cell? ⟨bq, oq + kn * 2 + 1, none⟩ = some (.slice Aq qr.length cq) := (HBa.out.cell (p := ⟨bq, oq + kn * 2 + 1, none⟩) (by show bq < wo.heap.size; omega)).trans Nqc1
        have apc0 : wa.cell? ⟨gs, i * 2, none⟩ = some (.int .i64 ql) := (HBa.out.cell (p := ⟨gs, i * 2, none⟩) (by show gs < wo.heap.size; omega)).trans Npc0
        have apc1 : wa.cell? ⟨gs, i * 2 + 1, none⟩ = some (.slice Ap qr.length cp) := (HBa.out.cell (p := ⟨gs, i * 2 + 1, none⟩) (by show gs < wo.heap.size; omega)).trans Npc1
        refine hK.out _ _ ?ha25 (fun hHeld => ?ra25)
        case ha25 => ((try dsimp only); go_keep)
        clear hK Kq
        try simp only [Act.put, List.setIfInBounds_toArray, List.set_cons_zero, List.set_cons_succ]
        refine take_run (i := 26) (v := .bool false) rfl (by kernel_rfl) (by kernel_rfl) (by kernel_rfl) (fun _ _ _ h => h) (by rfl) ?ya26 (by assumption) ?ra26
        case ya26 => (intro w hSw; (try dsimp only at hSw); try go_simp; first | done | omega | (simp []; done) | trace_state)
        try simp only [Act.put, List.setIfInBounds_toArray, List.set_cons_zero, List.set_cons_succ]
        refine take_run (i := 27) (v := ?va27) rfl (by kernel_rfl) (by kernel_rfl) (by kernel_rfl) (fun _ _ _ h => h) (by rfl) ?ya27 (by assumption) ?ra27
        case ya27 => (intro w hSw; (try dsimp only at hSw); go_simp; try with_reducible rfl)
        try simp only [Act.put, List.setIfInBounds_toArray, List.set_cons_zero, List.set_cons_succ]
        refine take_run (i := 28) (v := ?va28) rfl (by kernel_rfl) (by kernel_rfl) (by kernel_rfl) (fun _ _ _ h => h) (by rfl) ?ya28 (by assumption) ?ra28
        case ya28 => (intro w hSw; (try dsimp only at hSw); go_simp; try with_reducible rfl)
        try simp only [Act.put, List.setIfInBounds_toArray, List.set_cons_zero, List.set_cons_succ]
        refine take_run (i := 29) (v := ?va29) rfl (by kernel_rfl) (by kernel_rfl) (by kernel_rfl) (fun _ _ _ h => h) (by rfl) ?ya29 (by assumption) ?ra29
        case ya29 => (intro w hSw; (try dsimp only at hSw); go_simp; try with_reducible rfl)
        try simp only [Act.put, List.setIfInBounds_toArray, List.set_cons_zero, List.set_cons_succ]
        refine take_run (i := 30) (v := .bool false) rfl (by kernel_rfl) (by kernel_rfl) (by kernel_rfl) (fun _ _ _ h => h) (by rfl) ?ya30 (by assumption) ?ra30
        case ya30 => (intro w hSw; (try dsimp only at hSw); try go_simp; first | done | omega | (simp [hd3]; done) | trace_state)
        try simp only [Act.put, List.setIfInBounds_toArray, List.set_cons_zero, List.set_cons_succ]
        refine take_run (i := 31) (v := ?va31) rfl (by kernel_rfl) (by kernel_rfl) (by kernel_rfl) (fun _ _ _ h => h) (by rfl) ?ya31 (by assumption) ?ra31
        case ya31 => (intro w hSw; (try dsimp only at hSw); go_simp; try with_reducible rfl)
        try simp only [Act.put, List.setIfInBounds_toArray, List.set_cons_zero, List.set_cons_succ]
        refine take_bar (i := 32) rfl (by kernel_rfl) (by kernel_rfl) (by kernel_rfl) (fun _ _ _ h => h) (by rfl) (by assumption) ?_
        try simp only [Act.put, List.setIfInBounds_toArray, List.set_cons_zero, List.set_cons_succ]
        refine take_bar (i := 33) rfl (by kernel_rfl) (by kernel_rfl) (by kernel_rfl) (fun _ _ _ h => h) (by rfl) (by assumption) ?_
        try simp only [Act.put, List.setIfInBounds_toArray, List.set_cons_zero, List.set_cons_succ]
        refine take_bar (i := 34) rfl (by kernel_rfl) (by kernel_rfl) (by kernel_rfl) (fun _ _ _ h => h) (by rfl) (by assumption) ?_
        try simp only [Act.put, List.setIfInBounds_toArray, List.set_cons_zero, List.set_cons_succ]
        refine take_bar (i := 35) rfl (by kernel_rfl) (by kernel_rfl) (by kernel_rfl) (fun _ _ _ h => h) (by rfl) (by assumption) ?_
        try simp only [Act.put, List.setIfInBounds_toArray, List.set_cons_zero, List.set_cons_succ]
        refine take_bar (i := 36) rfl (by kernel_rfl) (by kernel_rfl) (by kernel_rfl) (fun _ _ _ h => h) (by rfl) (by assumption) ?_
        try simp only [Act.put, List.setIfInBounds_toArray, List.set_cons_zero, List.set_cons_succ]
        refine take_bar (i := 37) rfl (by kernel_rfl) (by kernel_rfl) (by kernel_rfl) (fun _ _ _ h => h) (by rfl) (by assumption) ?_
        try simp only [Act.put, List.setIfInBounds_toArray, List.set_cons_zero, List.set_cons_succ]
        refine take_bar (i := 38) rfl (by kernel_rfl) (by kernel_rfl) (by kernel_rfl) (fun _ _ _ h => h) (by rfl) (by assumption) ?_
        try simp only [Act.put, List.setIfInBounds_toArray, List.set_cons_zero, List.set_cons_succ]
        refine take_bar (i := 39) rfl (by kernel_rfl) (by kernel_rfl) (by kernel_rfl) (fun _ _ _ h => h) (by rfl) (by assumption) ?_
        try simp only [Act.put, List.setIfInBounds_toArray, List.set_cons_zero, List.set_cons_succ]
        refine take_bar (i := 40) rfl (by kernel_rfl) (by kernel_rfl) (by kernel_rfl) (fun _ _ _ h => h) (by rfl) (by assumption) ?_
        try simp only [Act.put, List.setIfInBounds_toArray, List.set_cons_zero, List.set_cons_succ]
        refine take_bar (i := 41) rfl (by kernel_rfl) (by kernel_rfl) (by kernel_rfl) (fun _ _ _ h => h) (by rfl) (by assumption) ?_
        try simp only [Act.put, List.setIfInBounds_toArray, List.set_cons_zero, List.set_cons_succ]
        refine take_bar (i := 42) rfl (by kernel_rfl) (by kernel_rfl) (by kernel_rfl) (fun _ _ _ h => h) (by rfl) (by assumption) ?_
        try simp only [Act.put, List.setIfInBounds_toArray, List.set_cons_zero, List.set_cons_succ]
        refine take_bar (i := 43) rfl (by kernel_rfl) (by kernel_rfl) (by kernel_rfl) (fun _ _ _ h => h) (by rfl) (by assumption) ?_
        try simp only [Act.put, List.setIfInBounds_toArray, List.set_cons_zero, List.set_cons_succ]
        refine take_bar (i := 44) rfl (by kernel_rfl) (by kernel_rfl) (by kernel_rfl) (fun _ _ _ h => h) (by rfl) (by assumption) ?_
        try simp only [Act.put, List.setIfInBounds_toArray, List.set_cons_zero, List.set_cons_succ]
        refine take_run (i := 45) (v := ?va45) rfl (by kernel_rfl) (by kernel_rfl) (by kernel_rfl) (fun _ _ _ h => h) (by rfl) ?ya45 (by assumption) ?ra45
        case ya45 => (intro w hSw; (try dsimp only at hSw); go_simp; try with_reducible rfl)
        try simp only [Act.put, List.setIfInBounds_toArray, List.set_cons_zero, List.set_cons_succ]
        refine take_run (i := 46) (v := ?va46) rfl (by kernel_rfl) (by kernel_rfl) (by kernel_rfl) (fun _ _ _ h => h) (by rfl) ?ya46 (by assumption) ?ra46
        case ya46 => (intro w hSw; (try dsimp only at hSw); go_simp; try with_reducible rfl)
        try simp only [Act.put, List.setIfInBounds_toArray, List.set_cons_zero, List.set_cons_succ]
        refine wpAnyH_done (by kernel_rfl) ?_ _
        refine NoPanic.normal ?_
        have hNb := HNo.out.below HBa.out zN
        have nf1 := hNb.frozen kn
        have nc1 : wa.cell? ⟨w5.heap.size, kn, none⟩ = some (.bool false) := by rw [hNb.cell]; exact bcl_get HFk.out
        have zN1 : w5.heap.size < wa.heap.size := hNb.lt
        have HNb := Lib.hid hNb
        clear hNb
        go_wp2_with fail
        go_roundw
        case rel =>
          refine ⟨i + 1, bs.set kn true, hlt, by go_num, by rw [← bcl_set]; exact HNb.out.set_ kn _, by rw [List.length_set]; exact HBl.out, fun m y hm hym => ?_, (HKo.out.below HBa.out).trans ((Kept.refl (fun b => b = w5.heap.size) _).setCell (p := ⟨w5.heap.size, kn, none⟩) (.inl rfl) _)⟩
          obtain ⟨k2, rfl, hk2⟩ := perm_range HPm.out.1 hym
          simp only [Int.toNat_natCast]
          have hne : kn ≠ k2 := fun e => by
            subst e
            have := nodup_inj ys i m _ (HPm.out.1.nodup_iff.2 (idxL_ok HNd.out).nodup) HY.out hym
            omega
          rw [List.getElem?_set_ne hne]
          have h3 := HFr.out m (k2 : Int) (by omega) hym
          simpa using h3
        case measure => simp [intOf]; omega
      · obtain ⟨y', hy'⟩ := get_some (show i - 1 < ys.length by omega)
        obtain ⟨km, rfl, hkm⟩ := perm_range HPm.out.1 hy'
        obtain ⟨p, hp⟩ := get_some hkm
        have hpa := ruleAt_get hp
        have hsp : (ys.map (ruleAt rs))[i - 1]? = some p := by rw [List.getElem?_map, hy', ← hpa]; rfl
        obtain ⟨br, or_, Az, cz, eA, hSz, hbz, hzi, hzc, hzm, hEz, zc0, zc1⟩ := HEo.out.2.1.rule hsp
        injection eA with eA
        injection eA with e1 e2 _
        subst e1; subst e2
        have hcmp : ruleCmp p ⟨ql, qr⟩ < 0 := by
          have h3 := HPm.out.2 (i - 1) i (km : Int) (kn : Int) (by omega) (by omega) hy' hy
          unfold ltAt ltRule at h3
          obtain ⟨q2, hq2⟩ := get_some hkl
          have h4 := HQA.out
          rw [hpa, h4] at h3
          simpa using h3
        obtain ⟨pl, pr⟩ := p
        dsimp only at *
        have hd3 : decide ((0 : Int) < (i : Int)) = true := by simp; omega
        have hd4 : decide (0 ≤ ruleCmp ⟨pl, pr⟩ ⟨ql, qr⟩) = false := by simp; omega
        have hcmp2 : ¬ 0 ≤ ruleCmp ⟨pl, pr⟩ ⟨ql, qr⟩ := by omega
        have hiw : IntKind.i64.wrap ((i : Int) - 1) = (i : Int) - 1 := IntWalk.i64_in _ (by omega)
        have hi2 : (0 : Int) ≤ (i : Int) - 1 := by omega
        have hi3 : (i : Int) - 1 < (rs.length : Int) := by omega
        have hi4 : ((i : Int) - 1).toNat = i - 1 := by omega
        have hi5 : (1 : Int) ≤ (i : Int) := by omega
        have HZ := Lib.hid (And.intro (And.intro hzc hzm) hEz)
        have hzm9 : pr.length ≤ 9223372036854775807 := by omega
        clear hy hy' hp hsp hSz hzi hzc hzm hEz hpa hi00
        go_wp2_with fail
        have Nnc : wo.cell? ⟨w5.heap.size, kn, none⟩ = some (.bool false) := by simpa using nc
        have Ng3 : wo.cell? ⟨w1.heap.size, 3, none⟩ = some (.slice (some ⟨bq, oq, none⟩) rs.length cr) := by simpa using g3
        have Ns3 : wo.cell? ⟨w3.heap.size, 3, none⟩ = some (.slice (some ⟨gs, 0, none⟩) rs.length cs) := by simpa using s3
        have Nqc0 : wo.cell? ⟨bq, oq + kn * 2, none⟩ = some (.int .i64 ql) := by simpa using qc0
        have Nqc1 : wo.cell? ⟨bq, oq + kn * 2 + 1, none⟩ = some (.slice Aq qr.length cq) := by simpa using qc1
        have Npc0 : wo.cell? ⟨gs, i * 2, none⟩ = some (.int .i64 ql) := by simpa using pc0
        have Npc1 : wo.cell? ⟨gs, i * 2 + 1, none⟩ = some (.slice Ap qr.length cp) := by simpa using pc1
        have Nzc0 : wo.cell? ⟨gs, (i - 1) * 2, none⟩ = some (.int .i64 pl) := by simpa using zc0
        have Nzc1 : wo.cell? ⟨gs, (i - 1) * 2 + 1, none⟩ = some (.slice Az pr.length cz) := by simpa using zc1
        refine wp_region_noPanic ?_
        refine wp_region_held_drew (S := (fun w' => w'.cell? ⟨w5.heap.size, kn, none⟩ = some (.bool false) ∧ w'.cell? ⟨w1.heap.size, 3, none⟩ = some (.slice (some ⟨bq, oq, none⟩) rs.length cr) ∧ w'.cell? ⟨w3.heap.size, 3, none⟩ = some (.slice (some ⟨gs, 0, none⟩) rs.length cs) ∧ w'.cell? ⟨bq, oq + kn * 2, none⟩ = some (.int .i64 ql) ∧ w'.cell? ⟨bq, oq + kn * 2 + 1, none⟩ = some (.slice Aq qr.length cq) ∧ w'.cell? ⟨gs, i * 2, none⟩ = some (.int .i64 ql) ∧ w'.cell? ⟨gs, i * 2 + 1, none⟩ = some (.slice Ap qr.length cp) ∧ w'.cell? ⟨gs, (i - 1) * 2, none⟩ = some (.int .i64 pl) ∧ w'.cell? ⟨gs, (i - 1) * 2 + 1, none⟩ = some (.slice Az pr.length cz))) (by kernel_rfl) ?hb (fun hHeld => ?bb)
        case hb => ((try dsimp only); go_keep)
        refine take_run (i := 0) (v := ?vb0) rfl (by kernel_rfl) (by kernel_rfl) (by kernel_rfl) (fun _ _ _ h => h) (by rfl) ?yb0 (by assumption) ?rb0
        case yb0 => (intro w hSw; (try dsimp only at hSw); go_simp; try with_reducible rfl)
        try simp only [Act.put, List.setIfInBounds_toArray, List.set_cons_zero, List.set_cons_succ]
        refine take_run (i := 1) (v := .bool false) rfl (by kernel_rfl) (by kernel_rfl) (by kernel_rfl) (fun _ _ _ h => h) (by rfl) ?yb1 (by assumption) ?rb1
        case yb1 => (intro w hSw; (try dsimp only at hSw); try go_simp; first | done | omega | (simp [hd1]; done) | trace_state)
        try simp only [Act.put, List.setIfInBounds_toArray, List.set_cons_zero, List.set_cons_succ]
        refine take_run (i := 2) (v := ?vb2) rfl (by kernel_rfl) (by kernel_rfl) (by kernel_rfl) (fun _ _ _ h => h) (by rfl) ?yb2 (by assumption) ?rb2
        case yb2 => (intro w hSw; (try dsimp only at hSw); go_simp; try with_reducible rfl)
        try simp only [Act.put, List.setIfInBounds_toArray, List.set_cons_zero, List.set_cons_succ]
        refine take_run (i := 3) (v := ?vb3) rfl (by kernel_rfl) (by kernel_rfl) (by kernel_rfl) (fun _ _ _ h => h) (by rfl) ?yb3 (by assumption) ?rb3
        case yb3 => (intro w hSw; (try dsimp only at hSw); go_simp; try with_reducible rfl)
        try simp only [Act.put, List.setIfInBounds_toArray, List.set_cons_zero, List.set_cons_succ]
        refine take_run (i := 4) (v := ?vb4) rfl (by kernel_rfl) (by kernel_rfl) (by kernel_rfl) (fun _ _ _ h => h) (by rfl) ?yb4 (by assumption) ?rb4
        case yb4 => (intro w hSw; (try dsimp only at hSw); go_simp; try with_reducible rfl)
        try simp only [Act.put, List.setIfInBounds_toArray, List.set_cons_zero, List.set_cons_succ]
        refine take_run (i := 5) (v := ?vb5) rfl (by kernel_rfl) (by kernel_rfl) (by kernel_rfl) (fun _ _ _ h => h) (by rfl) ?yb5 (by assumption) ?rb5
        case yb5 => (intro w hSw; (try dsimp only at hSw); go_simp; try with_reducible rfl)
        try simp only [Act.put, List.setIfInBounds_toArray, List.set_cons_zero, List.set_cons_succ]
        refine take_run (i := 6) (v := .bool false) rfl (by kernel_rfl) (by kernel_rfl) (by kernel_rfl) (fun _ _ _ h => h) (by rfl) ?yb6 (by assumption) ?rb6
        case yb6 => (intro w hSw; (try dsimp only at hSw); try go_simp; first | done | omega | (simp [hd2]; done) | trace_state)
        try simp only [Act.put, List.setIfInBounds_toArray, List.set_cons_zero, List.set_cons_succ]
        refine take_run (i := 7) (v := ?vb7) rfl (by kernel_rfl) (by kernel_rfl) (by kernel_rfl) (fun _ _ _ h => h) (by rfl) ?yb7 (by assumption) ?rb7
        case yb7 => (intro w hSw; (try dsimp only at hSw); go_simp; try with_reducible rfl)
        try simp only [Act.put, List.setIfInBounds_toArray, List.set_cons_zero, List.set_cons_succ]
        refine take_run (i := 8) (v := ?vb8) rfl (by kernel_rfl) (by kernel_rfl) (by kernel_rfl) (fun _ _ _ h => h) (by rfl) ?yb8 (by assumption) ?rb8
        case yb8 => (intro w hSw; (try dsimp only at hSw); go_simp; try with_reducible rfl)
        try simp only [Act.put, List.setIfInBounds_toArray, List.set_cons_zero, List.set_cons_succ]
        refine take_run (i := 9) (v := ?vb9) rfl (by kernel_rfl) (by kernel_rfl) (by kernel_rfl) (fun _ _ _ h => h) (by rfl) ?yb9 (by assumption) ?rb9
        case yb9 => (intro w hSw; (try dsimp only at hSw); go_simp; try with_reducible rfl)
        try simp only [Act.put, List.setIfInBounds_toArray, List.set_cons_zero, List.set_cons_succ]
        refine take_run (i := 10) (v := ?vb10) rfl (by kernel_rfl) (by kernel_rfl) (by kernel_rfl) (fun _ _ _ h => h) (by rfl) ?yb10 (by assumption) ?rb10
        case yb10 => (intro w hSw; (try dsimp only at hSw); go_simp; try with_reducible rfl)
        try simp only [Act.put, List.setIfInBounds_toArray, List.set_cons_zero, List.set_cons_succ]
        refine take_run (i := 11) (v := ?vb11) rfl (by kernel_rfl) (by kernel_rfl) (by kernel_rfl) (fun _ _ _ h => h) (by rfl) ?yb11 (by assumption) ?rb11
        case yb11 => (intro w hSw; (try dsimp only at hSw); go_simp; try with_reducible rfl)
        try simp only [Act.put, List.setIfInBounds_toArray, List.set_cons_zero, List.set_cons_succ]
        refine take_run (i := 12) (v := ?vb12) rfl (by kernel_rfl) (by kernel_rfl) (by kernel_rfl) (fun _ _ _ h => h) (by rfl) ?yb12 (by assumption) ?rb12
        case yb12 => (intro w hSw; (try dsimp only at hSw); go_simp; try with_reducible rfl)
        try simp only [Act.put, List.setIfInBounds_toArray, List.set_cons_zero, List.set_cons_succ]
        refine take_run (i := 13) (v := ?vb13) rfl (by kernel_rfl) (by kernel_rfl) (by kernel_rfl) (fun _ _ _ h => h) (by rfl) ?yb13 (by assumption) ?rb13
        case yb13 => (intro w hSw; (try dsimp only at hSw); go_simp; try with_reducible rfl)
        try simp only [Act.put, List.setIfInBounds_toArray, List.set_cons_zero, List.set_cons_succ]
        refine take_run (i := 14) (v := ?vb14) rfl (by kernel_rfl) (by kernel_rfl) (by kernel_rfl) (fun _ _ _ h => h) (by rfl) ?yb14 (by assumption) ?rb14
        case yb14 => (intro w hSw; (try dsimp only at hSw); go_simp; try with_reducible rfl)
        try simp only [Act.put, List.setIfInBounds_toArray, List.set_cons_zero, List.set_cons_succ]
        refine take_run (i := 15) (v := ?vb15) rfl (by kernel_rfl) (by kernel_rfl) (by kernel_rfl) (fun _ _ _ h => h) (by rfl) ?yb15 (by assumption) ?rb15
        case yb15 => (intro w hSw; (try dsimp only at hSw); go_simp; try with_reducible rfl)
        try simp only [Act.put, List.setIfInBounds_toArray, List.set_cons_zero, List.set_cons_succ]
        refine take_run (i := 16) (v := ?vb16) rfl (by kernel_rfl) (by kernel_rfl) (by kernel_rfl) (fun _ _ _ h => h) (by rfl) ?yb16 (by assumption) ?rb16
        case yb16 => (intro w hSw; (try dsimp only at hSw); go_simp; try with_reducible rfl)
        try simp only [Act.put, List.setIfInBounds_toArray, List.set_cons_zero, List.set_cons_succ]
        refine take_run (i := 17) (v := ?vb17) rfl (by kernel_rfl) (by kernel_rfl) (by kernel_rfl) (fun _ _ _ h => h) (by rfl) ?yb17 (by assumption) ?rb17
        case yb17 => (intro w hSw; (try dsimp only at hSw); go_simp; try with_reducible rfl)
        try simp only [Act.put, List.setIfInBounds_toArray, List.set_cons_zero, List.set_cons_succ]
        refine take_run (i := 18) (v := ?vb18) rfl (by kernel_rfl) (by kernel_rfl) (by kernel_rfl) (fun _ _ _ h => h) (by rfl) ?yb18 (by assumption) ?rb18
        case yb18 => (intro w hSw; (try dsimp only at hSw); go_simp; try with_reducible rfl)
        try simp only [Act.put, List.setIfInBounds_toArray, List.set_cons_zero, List.set_cons_succ]
        refine take_run (i := 19) (v := ?vb19) rfl (by kernel_rfl) (by kernel_rfl) (by kernel_rfl) (fun _ _ _ h => h) (by rfl) ?yb19 (by assumption) ?rb19
        case yb19 => (intro w hSw; (try dsimp only at hSw); go_simp; try with_reducible rfl)
        try simp only [Act.put, List.setIfInBounds_toArray, List.set_cons_zero, List.set_cons_succ]
        refine take_run (i := 20) (v := ?vb20) rfl (by kernel_rfl) (by kernel_rfl) (by kernel_rfl) (fun _ _ _ h => h) (by rfl) ?yb20 (by assumption) ?rb20
        case yb20 => (intro w hSw; (try dsimp only at hSw); go_simp; try with_reducible rfl)
        try simp only [Act.put, List.setIfInBounds_toArray, List.set_cons_zero, List.set_cons_succ]
        refine take_run (i := 21) (v := ?vb21) rfl (by kernel_rfl) (by kernel_rfl) (by kernel_rfl) (fun _ _ _ h => h) (by rfl) ?yb21 (by assumption) ?rb21
        case yb21 => (intro w hSw; (try dsimp only at hSw); go_simp; try with_reducible rfl)
        try simp only [Act.put, List.setIfInBounds_toArray, List.set_cons_zero, List.set_cons_succ]
        refine take_run (i := 22) (v := ?vb22) rfl (by kernel_rfl) (by kernel_rfl) (by kernel_rfl) (fun _ _ _ h => h) (by rfl) ?yb22 (by assumption) ?rb22
        case yb22 => (intro w hSw; (try dsimp only at hSw); go_simp; try with_reducible rfl)
        try simp only [Act.put, List.setIfInBounds_toArray, List.set_cons_zero, List.set_cons_succ]
        refine take_run (i := 23) (v := ?vb23) rfl (by kernel_rfl) (by kernel_rfl) (by kernel_rfl) (fun _ _ _ h => h) (by rfl) ?yb23 (by assumption) ?rb23
        case yb23 => (intro w hSw; (try dsimp only at hSw); go_simp; try with_reducible rfl)
        try simp only [Act.put, List.setIfInBounds_toArray, List.set_cons_zero, List.set_cons_succ]
        refine take_run (i := 24) (v := ?vb24) rfl (by kernel_rfl) (by kernel_rfl) (by kernel_rfl) (fun _ _ _ h => h) (by rfl) ?yb24 (by assumption) ?rb24
        case yb24 => (intro w hSw; (try dsimp only at hSw); go_simp; try with_reducible rfl)
        try simp only [Act.put, List.setIfInBounds_toArray, List.set_cons_zero, List.set_cons_succ]
        refine take_call (i := 25) rfl (by kernel_rfl) (by rfl) (fun Kq hK => ?_)
        go_simp
        go_at_call 40
        refine (compare_any ql ql Ap Aq cp cq qr qr _ wo.drew hqm9 hqm9 (((HQ.out.2.2.2.below (Below.refl wo.heap.size wo).drew)).keep (S' := fun b => b < wo.heap.size) (fun _ _ _ => rfl) (fun b hb => by have h3 := hb.2; show b < wo.heap.size; omega)) (((HQ.out.2.2.1.below (Below.refl wo.heap.size wo).drew)).keep (S' := fun b => b < wo.heap.size) (fun _ _ _ => rfl) (fun b hb => by have h3 := hb.2; show b < wo.heap.size; omega))).mono ?_
        rintro e wa ⟨rfl, hba⟩
        rw [hzq]
        have HBa := Lib.hid (bundrew hba)
        have hza : wo.heap.size ≤ wa.heap.size := HBa.out.size
        clear hba
        have anc : wa.cell? ⟨w5.heap.size, kn, none⟩ = some (.bool false) := (HBa.out.cell (p := ⟨w5.heap.size, kn, none⟩) (by show w5.heap.size < wo.heap.size; omega)).trans Nnc
        have ag3 : wa.cell? ⟨w1.heap.size, 3, none⟩ = some (.slice (some ⟨bq, oq, none⟩) rs.length cr) := (HBa.out.cell (p := ⟨w1.heap.size, 3, none⟩) (by show w1.heap.size < wo.heap.size; omega)).trans Ng3
        have as3 : wa.cell? ⟨w3.heap.size, 3, none⟩ = some (.slice (some ⟨gs, 0, none⟩) rs.length cs) := (HBa.out.cell (p := ⟨w3.heap.size, 3, none⟩) (by show w3.heap.size < wo.heap.size; omega)).trans Ns3
        have aqc0 : wa.cell? ⟨bq, oq + kn * 2, none⟩ = some (.int .i64 ql) := (HBa.out.cell (p := ⟨bq, oq + kn * 2, none⟩) (by show bq < wo.heap.size; omega)).trans Nqc0
        have aqc1 : wa.cell? ⟨bq, oq + kn * 2 + 1, none⟩ = some (.slice Aq qr.length cq) := (HBa.out.cell (p := ⟨bq, oq + kn * 2 + 1, none⟩) (by show bq < wo.heap.size; omega)).trans Nqc1
        have apc0 : wa.cell? ⟨gs, i * 2, none⟩ = some (.int .i64 ql) := (HBa.out.cell (p := ⟨gs, i * 2, none⟩) (by show gs < wo.heap.size; omega)).trans Npc0
        have apc1 : wa.cell? ⟨gs, i * 2 + 1, none⟩ = some (.slice Ap qr.length cp) := (HBa.out.cell (p := ⟨gs, i * 2 + 1, none⟩) (by show gs < wo.heap.size; omega)).trans Npc1
        have azc0 : wa.cell? ⟨gs, (i - 1) * 2, none⟩ = some (.int .i64 pl) := (HBa.out.cell (p := ⟨gs, (i - 1) * 2, none⟩) (by show gs < wo.heap.size; omega)).trans Nzc0
        have azc1 : wa.cell? ⟨gs, (i - 1) * 2 + 1, none⟩ = some (.slice Az pr.length cz) := (HBa.out.cell (p := ⟨gs, (i - 1) * 2 + 1, none⟩) (by show gs < wo.heap.size; omega)).trans Nzc1
        refine hK.out _ _ ?hb25 (fun hHeld => ?rb25)
        case hb25 => ((try dsimp only); go_keep)
        clear hK Kq
        try simp only [Act.put, List.setIfInBounds_toArray, List.set_cons_zero, List.set_cons_succ]
        refine take_run (i := 26) (v := .bool false) rfl (by kernel_rfl) (by kernel_rfl) (by kernel_rfl) (fun _ _ _ h => h) (by rfl) ?yb26 (by assumption) ?rb26
        case yb26 => (intro w hSw; (try dsimp only at hSw); try go_simp; first | done | omega | (simp []; done) | trace_state)
        try simp only [Act.put, List.setIfInBounds_toArray, List.set_cons_zero, List.set_cons_succ]
        refine take_run (i := 27) (v := ?vb27) rfl (by kernel_rfl) (by kernel_rfl) (by kernel_rfl) (fun _ _ _ h => h) (by rfl) ?yb27 (by assumption) ?rb27
        case yb27 => (intro w hSw; (try dsimp only at hSw); go_simp; try with_reducible rfl)
        try simp only [Act.put, List.setIfInBounds_toArray, List.set_cons_zero, List.set_cons_succ]
        refine take_run (i := 28) (v := ?vb28) rfl (by kernel_rfl) (by kernel_rfl) (by kernel_rfl) (fun _ _ _ h => h) (by rfl) ?yb28 (by assumption) ?rb28
        case yb28 => (intro w hSw; (try dsimp only at hSw); go_simp; try with_reducible rfl)
        try simp only [Act.put, List.setIfInBounds_toArray, List.set_cons_zero, List.set_cons_succ]
        refine take_run (i := 29) (v := ?vb29) rfl (by kernel_rfl) (by kernel_rfl) (by kernel_rfl) (fun _ _ _ h => h) (by rfl) ?yb29 (by assumption) ?rb29
        case yb29 => (intro w hSw; (try dsimp only at hSw); go_simp; try with_reducible rfl)
        try simp only [Act.put, List.setIfInBounds_toArray, List.set_cons_zero, List.set_cons_succ]
        refine take_run (i := 30) (v := .bool true) rfl (by kernel_rfl) (by kernel_rfl) (by kernel_rfl) (fun _ _ _ h => h) (by rfl) ?yb30 (by assumption) ?rb30
        case yb30 => (intro w hSw; (try dsimp only at hSw); try go_simp; first | done | omega | (simp [hd3]; done) | trace_state)
        try simp only [Act.put, List.setIfInBounds_toArray, List.set_cons_zero, List.set_cons_succ]
        refine take_run (i := 31) (v := ?vb31) rfl (by kernel_rfl) (by kernel_rfl) (by kernel_rfl) (fun _ _ _ h => h) (by rfl) ?yb31 (by assumption) ?rb31
        case yb31 => (intro w hSw; (try dsimp only at hSw); go_simp; try with_reducible rfl)
        try simp only [Act.put, List.setIfInBounds_toArray, List.set_cons_zero, List.set_cons_succ]
        refine take_run (i := 32) (v := ?vb32) rfl (by kernel_rfl) (by kernel_rfl) (by kernel_rfl) (fun _ _ _ h => h) (by rfl) ?yb32 (by assumption) ?rb32
        case yb32 => (intro w hSw; (try dsimp only at hSw); go_simp; try with_reducible rfl)
        try simp only [Act.put, List.setIfInBounds_toArray, List.set_cons_zero, List.set_cons_succ]
        refine take_run (i := 33) (v := ?vb33) rfl (by kernel_rfl) (by kernel_rfl) (by kernel_rfl) (fun _ _ _ h => h) (by rfl) ?yb33 (by assumption) ?rb33
        case yb33 => (intro w hSw; (try dsimp only at hSw); go_simp; try with_reducible rfl)
        try simp only [Act.put, List.setIfInBounds_toArray, List.set_cons_zero, List.set_cons_succ]
        refine take_run (i := 34) (v := ?vb34) rfl (by kernel_rfl) (by kernel_rfl) (by kernel_rfl) (fun _ _ _ h => h) (by rfl) ?yb34 (by assumption) ?rb34
        case yb34 => (intro w hSw; (try dsimp only at hSw); go_simp; try with_reducible rfl)
        try simp only [Act.put, List.setIfInBounds_toArray, List.set_cons_zero, List.set_cons_succ]
        refine take_run (i := 35) (v := ?vb35) rfl (by kernel_rfl) (by kernel_rfl) (by kernel_rfl) (fun _ _ _ h => h) (by rfl) ?yb35 (by assumption) ?rb35
        case yb35 => (intro w hSw; (try dsimp only at hSw); go_simp; try with_reducible rfl)
        try simp only [Act.put, List.setIfInBounds_toArray, List.set_cons_zero, List.set_cons_succ]
        refine take_run (i := 36) (v := ?vb36) rfl (by kernel_rfl) (by kernel_rfl) (by kernel_rfl) (fun _ _ _ h => h) (by rfl) ?yb36 (by assumption) ?rb36
        case yb36 => (intro w hSw; (try dsimp only at hSw); go_simp; try with_reducible rfl)
        try simp only [Act.put, List.setIfInBounds_toArray, List.set_cons_zero, List.set_cons_succ]
        refine take_run (i := 37) (v := ?vb37) rfl (by kernel_rfl) (by kernel_rfl) (by kernel_rfl) (fun _ _ _ h => h) (by rfl) ?yb37 (by assumption) ?rb37
        case yb37 => (intro w hSw; (try dsimp only at hSw); go_simp; try with_reducible rfl)
        try simp only [Act.put, List.setIfInBounds_toArray, List.set_cons_zero, List.set_cons_succ]
        refine take_run (i := 38) (v := ?vb38) rfl (by kernel_rfl) (by kernel_rfl) (by kernel_rfl) (fun _ _ _ h => h) (by rfl) ?yb38 (by assumption) ?rb38
        case yb38 => (intro w hSw; (try dsimp only at hSw); go_simp; try with_reducible rfl)
        try simp only [Act.put, List.setIfInBounds_toArray, List.set_cons_zero, List.set_cons_succ]
        refine take_run (i := 39) (v := ?vb39) rfl (by kernel_rfl) (by kernel_rfl) (by kernel_rfl) (fun _ _ _ h => h) (by rfl) ?yb39 (by assumption) ?rb39
        case yb39 => (intro w hSw; (try dsimp only at hSw); go_simp; try with_reducible rfl)
        try simp only [Act.put, List.setIfInBounds_toArray, List.set_cons_zero, List.set_cons_succ]
        refine take_run (i := 40) (v := ?vb40) rfl (by kernel_rfl) (by kernel_rfl) (by kernel_rfl) (fun _ _ _ h => h) (by rfl) ?yb40 (by assumption) ?rb40
        case yb40 => (intro w hSw; (try dsimp only at hSw); go_simp; try with_reducible rfl)
        try simp only [Act.put, List.setIfInBounds_toArray, List.set_cons_zero, List.set_cons_succ]
        refine take_run (i := 41) (v := ?vb41) rfl (by kernel_rfl) (by kernel_rfl) (by kernel_rfl) (fun _ _ _ h => h) (by rfl) ?yb41 (by assumption) ?rb41
        case yb41 => (intro w hSw; (try dsimp only at hSw); go_simp; try with_reducible rfl)
        try simp only [Act.put, List.setIfInBounds_toArray, List.set_cons_zero, List.set_cons_succ]
        refine take_run (i := 42) (v := ?vb42) rfl (by kernel_rfl) (by kernel_rfl) (by kernel_rfl) (fun _ _ _ h => h) (by rfl) ?yb42 (by assumption) ?rb42
        case yb42 => (intro w hSw; (try dsimp only at hSw); go_simp; try with_reducible rfl)
        try simp only [Act.put, List.setIfInBounds_toArray, List.set_cons_zero, List.set_cons_succ]
        refine take_call (i := 43) rfl (by kernel_rfl) (by rfl) (fun Kq hK => ?_)
        go_simp
        go_at_call 40
        refine (compare_any pl ql Az Ap cz cp pr qr _ wa hzm9 hqm9 ((HZ.out.2.below HBa.out).keep (S' := fun b => b < wo.heap.size) (fun _ _ _ => rfl) (fun b hb => by have h3 := hb.2; show b < wo.heap.size; omega)) ((HQ.out.2.2.2.below HBa.out).keep (S' := fun b => b < wo.heap.size) (fun _ _ _ => rfl) (fun b hb => by have h3 := hb.2; show b < wo.heap.size; omega))).mono ?_
        rintro e wb ⟨rfl, hbb⟩
        have HBb := Lib.hid (bthen HBa.out hbb HBa.out.size)
        have hzb : wo.heap.size ≤ wb.heap.size := HBb.out.size
        clear hbb
        have bnc : wb.cell? ⟨w5.heap.size, kn, none⟩ = some (.bool false) := (HBb.out.cell (p := ⟨w5.heap.size, kn, none⟩) (by show w5.heap.size < wo.heap.size; omega)).trans Nnc
        have bg3 : wb.cell? ⟨w1.heap.size, 3, none⟩ = some (.slice (some ⟨bq, oq, none⟩) rs.length cr) := (HBb.out.cell (p := ⟨w1.heap.size, 3, none⟩) (by show w1.heap.size < wo.heap.size; omega)).trans Ng3
        have bs3 : wb.cell? ⟨w3.heap.size, 3, none⟩ = some (.slice (some ⟨gs, 0, none⟩) rs.length cs) := (HBb.out.cell (p := ⟨w3.heap.size, 3, none⟩) (by show w3.heap.size < wo.heap.size; omega)).trans Ns3
        have bqc0 : wb.cell? ⟨bq, oq + kn * 2, none⟩ = some (.int .i64 ql) := (HBb.out.cell (p := ⟨bq, oq + kn * 2, none⟩) (by show bq < wo.heap.size; omega)).trans Nqc0
        have bqc1 : wb.cell? ⟨bq, oq + kn * 2 + 1, none⟩ = some (.slice Aq qr.length cq) := (HBb.out.cell (p := ⟨bq, oq + kn * 2 + 1, none⟩) (by show bq < wo.heap.size; omega)).trans Nqc1
        have bpc0 : wb.cell? ⟨gs, i * 2, none⟩ = some (.int .i64 ql) := (HBb.out.cell (p := ⟨gs, i * 2, none⟩) (by show gs < wo.heap.size; omega)).trans Npc0
        have bpc1 : wb.cell? ⟨gs, i * 2 + 1, none⟩ = some (.slice Ap qr.length cp) := (HBb.out.cell (p := ⟨gs, i * 2 + 1, none⟩) (by show gs < wo.heap.size; omega)).trans Npc1
        have bzc0 : wb.cell? ⟨gs, (i - 1) * 2, none⟩ = some (.int .i64 pl) := (HBb.out.cell (p := ⟨gs, (i - 1) * 2, none⟩) (by show gs < wo.heap.size; omega)).trans Nzc0
        have bzc1 : wb.cell? ⟨gs, (i - 1) * 2 + 1, none⟩ = some (.slice Az pr.length cz) := (HBb.out.cell (p := ⟨gs, (i - 1) * 2 + 1, none⟩) (by show gs < wo.heap.size; omega)).trans Nzc1
        refine hK.out _ _ ?hb43 (fun hHeld => ?rb43)
        case hb43 => ((try dsimp only); go_keep)
        clear hK Kq
        try simp only [Act.put, List.setIfInBounds_toArray, List.set_cons_zero, List.set_cons_succ]
        refine take_run (i := 44) (v := .bool false) rfl (by kernel_rfl) (by kernel_rfl) (by kernel_rfl) (fun _ _ _ h => h) (by rfl) ?yb44 (by assumption) ?rb44
        case yb44 => (intro w hSw; (try dsimp only at hSw); try go_simp; first | done | omega | (simp [hd4, hcmp2]; done) | trace_state)
        try simp only [Act.put, List.setIfInBounds_toArray, List.set_cons_zero, List.set_cons_succ]
        refine take_run (i := 45) (v := ?vb45) rfl (by kernel_rfl) (by kernel_rfl) (by kernel_rfl) (fun _ _ _ h => h) (by rfl) ?yb45 (by assumption) ?rb45
        case yb45 => (intro w hSw; (try dsimp only at hSw); go_simp; try with_reducible rfl)
        try simp only [Act.put, List.setIfInBounds_toArray, List.set_cons_zero, List.set_cons_succ]
        refine take_run (i := 46) (v := ?vb46) rfl (by kernel_rfl) (by kernel_rfl) (by kernel_rfl) (fun _ _ _ h => h) (by rfl) ?yb46 (by assumption) ?rb46
        case yb46 => (intro w hSw; (try dsimp only at hSw); go_simp; try with_reducible rfl)
        try simp only [Act.put, List.setIfInBounds_toArray, List.set_cons_zero, List.set_cons_succ]
        refine wpAnyH_done (by kernel_rfl) ?_ _
        refine NoPanic.normal ?_
        have hNb := HNo.out.below HBb.out zN
        have nf1 := hNb.frozen kn
        have nc1 : wb.cell? ⟨w5.heap.size, kn, none⟩ = some (.bool false) := by rw [hNb.cell]; exact bcl_get HFk.out
        have zN1 : w5.heap.size < wb.heap.size := hNb.lt
        have HNb := Lib.hid hNb
        clear hNb
        go_wp2_with fail
        go_roundw
        case rel =>
          refine ⟨i + 1, bs.set kn true, hlt, by go_num, by rw [← bcl_set]; exact HNb.out.set_ kn _, by rw [List.length_set]; exact HBl.out, fun m y hm hym => ?_, (HKo.out.below HBb.out).trans ((Kept.refl (fun b => b = w5.heap.size) _).setCell (p := ⟨w5.heap.size, kn, none⟩) (.inl rfl) _)⟩
          obtain ⟨k2, rfl, hk2⟩ := perm_range HPm.out.1 hym
          simp only [Int.toNat_natCast]
          have hne : kn ≠ k2 := fun e => by
            subst e
            have := nodup_inj ys i m _ (HPm.out.1.nodup_iff.2 (idxL_ok HNd.out).nodup) HY.out hym
            omega
          rw [List.getElem?_set_ne hne]
          have h3 := HFr.out m (k2 : Int) (by omega) hym
          simpa using h3
        case measure => simp [intOf]; omega
    · have hlt' : ¬ (i : Int) < (rs.length : Int) := by omega
      obtain ⟨hp2, hm2⟩ := sorted_made HMd.out HPm.out.1
      have hml : (ys.map (ruleAt rs)).length = rs.length := hp2.length_eq
      have HSo3 := Lib.hid (sortedG_any t n s (ys.map (ruleAt rs)) (some ⟨gs, 0, none⟩) cs _ wo (made_check hm2) (by omega) (by omega) (hp2.nodup_iff.2 HNd.out) (fun q hq => HRr.out q (hp2.subset hq)) (by omega) hc2 hEo.2.1 (fun b hb => by have h3 := hb.2; omega))
      rw [hml] at HSo3
      have HMl := Lib.hid hml
      have x0 : wo.cell? ⟨w3.heap.size, 0, none⟩ = some (.int .i64 t) := hSo.cell 0
      have x1 : wo.cell? ⟨w3.heap.size, 1, none⟩ = some (.int .i64 n) := hSo.cell 1
      have x2 : wo.cell? ⟨w3.heap.size, 2, none⟩ = some (.int .i64 s) := hSo.cell 2
      clear hfr hN hk hGo hSo hEo g3 hp2 hm2 hml
      go_wp2_with fail
      refine HSo3.out.mono ?_
      rintro e w8 ⟨zs, g1, c1', g2, c2', he, hpz, hsz, ⟨hd1, hd2, _, _⟩, hEz, _, hb8⟩
      rw [HMl.out] at he hd1
      subst he
      have hagain := sorted_again HMd.out HPm.out.1 HPm.out.2 hpz hsz
      rw [hagain] at hEz
      obtain ⟨w9, hw9⟩ : ∃ w9 : World, w9 = w8.alloc (.cells #[.int .i64 t, .int .i64 n, .int .i64 s, .slice (some ⟨g1, 0, none⟩) rs.length c1'] 49) := ⟨_, rfl⟩
      have HW9 := Lib.hid hw9
      have hb9 : Below w8.heap.size w8 w9 := by rw [hw9]; exact (Below.refl _ _).alloc (Nat.le_refl _) _
      have hX9 : Blk' w9 w8.heap.size 49 #[.int .i64 t, .int .i64 n, .int .i64 s, .slice (some ⟨g1, 0, none⟩) rs.length c1'] := by rw [hw9]; exact Blk'.new w8 _ _
      have hb89 := bthen hb8 hb9 hb8.size
      have hS9 := HSo2.out.below hb89 HSo2.out.lt
      have HSame := Lib.hid (gSame_any ⟨t, n, s, ys.map (ruleAt rs)⟩ ⟨t, n, s, ys.map (ruleAt rs)⟩ (some ⟨g1, 0, none⟩) (some ⟨gs, 0, none⟩) c1' cs _ _ w9 (by have h3 := HMl.out; dsimp only; omega) (by have h3 := HMl.out; dsimp only; omega) (hEz.below hb9) (HEo.out.2.1.below hb89))
      dsimp only at HSame
      rw [HMl.out] at HSame
      have HB9 := Lib.hid (bthen HBo.out hb89 HBo.out.size)
      have z0 : w9.cell? ⟨w8.heap.size, 0, none⟩ = some (.int .i64 t) := hX9.cell 0
      have z1 : w9.cell? ⟨w8.heap.size, 1, none⟩ = some (.int .i64 n) := hX9.cell 1
      have z2 : w9.cell? ⟨w8.heap.size, 2, none⟩ = some (.int .i64 s) := hX9.cell 2
      have z3 : w9.cell? ⟨w8.heap.size, 3, none⟩ = some (.slice (some ⟨g1, 0, none⟩) rs.length c1') := hX9.cell 3
      have y0 : w9.cell? ⟨w3.heap.size, 0, none⟩ = some (.int .i64 t) := hS9.cell 0
      have y1 : w9.cell? ⟨w3.heap.size, 1, none⟩ = some (.int .i64 n) := hS9.cell 1
      have y2 : w9.cell? ⟨w3.heap.size, 2, none⟩ = some (.int .i64 s) := hS9.cell 2
      have y3 : w9.cell? ⟨w3.heap.size, 3, none⟩ = some (.slice (some ⟨gs, 0, none⟩) rs.length cs) := hS9.cell 3
      clear hpz hsz hagain hEz hb8 hw9 hb9 hX9 hb89 hS9 x0 x1 x2 s3
      go_upto_region 14 with (fail)
      rw [← HW9.out]
      go_wp2_with fail
      refine HSame.out.mono ?_
      rintro e wa ⟨rfl, hba⟩
      simp only [decide_true]
      have HBa := Lib.hid (bthen HB9.out hba HB9.out.size)
      clear hba
      go_wp2
      go_ret
      exact ⟨rfl, HBa.out⟩

theorem gramSortedOnce_row (raw : List Int) (v : Value) (W : World) (h : Vl W (OldS W) raw v) :
    Calls Try.prog 9 #[v] W fun e W' => e = .returned (.bool true) ∧ Below W.heap.size W W' := by
  obtain ⟨A, c, rfl, k1, k2, hA⟩ := h.slice
  exact gramSortedOnce_any A c raw (OldS W) W k1 k2 hA (fun b h => h)
end Go.Proofs.Ytnphbbhnfkjlcaa
