/- Contract: gram.Sorted of a valid grammar with few rules. -/
import Derived.Test.YtaidadjekfcacaaDoorQSortF
import Derived.Test.YtaidadjekfcacaaDoorQCopyG
import Derived.Test.YtaidadjekfcacaaDoorQCheck
namespace Go.Proofs.YtaidadjekfcacaaDoor
open Go.RowKit
set_option linter.unusedVariables false

def idxL (n : Nat) : List Int := (List.range n).map fun k : Nat => (k : Int)
theorem idxL_len (n : Nat) : (idxL n).length = n := by simp [idxL]
theorem idxL_snoc (n : Nat) : idxL (n + 1) = idxL n ++ [(n : Int)] := by simp [idxL, List.range_succ]
theorem idxL_ok {rs : List Rule} (h : rs.Nodup) : SrtOk rs (idxL rs.length) := by
  refine ⟨fun v hv => ?_, ?_, h⟩
  · obtain ⟨k, hk, rfl⟩ := List.mem_map.1 hv
    exact ⟨k, rfl, List.mem_range.1 hk⟩
  · unfold idxL List.Nodup
    rw [List.pairwise_map]
    exact List.nodup_range.imp (fun h e => h (by omega))
theorem Own.blkR {α : Type} [Dat α] {w : World} {S : Nat → Prop} {base : Nat} {e : TypeId} {v : Value} {xs : List α} (h : Own w S base e v xs) (hne : xs ≠ []) : ∃ g c cur, v = .slice (some ⟨g, 0, none⟩) xs.length c ∧ xs.length ≤ c ∧ c ≤ 9223372036854775807 ∧ base ≤ g ∧ Blk' w g e cur ∧ xs.length * Dat.size α ≤ cur.size := by
  obtain ⟨css, h1, h2, h3⟩ := h
  rcases h1.2 with ⟨rfl, hn⟩ | ⟨g, cap, cur, rfl, hg, hh, hnc, hcm, hsz, _⟩
  · exact absurd (List.eq_nil_of_length_eq_zero hn) hne
  · exact ⟨g, cap, cur, rfl, hnc, by simpa [maxLen] using hcm, hg, hh, by rw [hsz]; exact Nat.mul_le_mul_right _ hnc⟩
/-- The first rules are laid. -/
def Filled (rs : List Rule) (ys : List Int) (i : Nat) (cur : Array Value) (B : Nat) (w : World) : Prop :=
  ∀ (m : Nat) (y : Int), m < i → ys[m]? = some y → ∃ (Am : Option Addr) (cm : Nat), cur[m * 2]? = some (.int .i64 (ruleAt rs y).left) ∧ cur[m * 2 + 1]? = some (.slice Am (ruleAt rs y).right.length cm) ∧ I64 (ruleAt rs y).left ∧ (ruleAt rs y).right.length ≤ cm ∧ cm ≤ 9223372036854775807 ∧ Els w (fun b => B ≤ b ∧ b < w.heap.size) (ruleAt rs y).right Am
theorem Filled.els {rs : List Rule} {ys : List Int} {cur : Array Value} {B g : Nat} {w : World} {S : Nat → Prop} (h : Filled rs ys ys.length cur B w) (hb : Blk' w g 61 cur) (hg : S g) (hS : ∀ b, B ≤ b → b < w.heap.size → S b) : Els w S (ys.map (ruleAt rs)) (some ⟨g, 0, none⟩) := by
  intro _
  refine ⟨g, 0, rfl, hg, fun i x hx => ?_⟩
  rw [List.getElem?_map] at hx
  cases hy : ys[i]? with
  | none => rw [hy] at hx; simp at hx
  | some y =>
    rw [hy] at hx
    simp at hx
    subst hx
    obtain ⟨Am, cm, h1, h2, h3, h4, h5, h6⟩ := h i y (List.getElem?_eq_some_iff.1 hy).1 hy
    refine ⟨[.int .i64 (ruleAt rs y).left, .slice Am (ruleAt rs y).right.length cm], ⟨_, rfl, h3, Vl.of_slice rfl h4 h5 (h6.keep (fun _ _ _ => rfl) (fun b hb => hS b hb.1 hb.2))⟩, fun j u hu => ?_⟩
    rw [hb.cell]
    match j, hu with
    | 0, hu => simp at hu; subst hu; rw [show 0 + i * Dat.size Rule + 0 = i * 2 from by show 0 + i * 2 + 0 = i * 2; omega]; exact h1
    | 1, hu => simp at hu; subst hu; rw [show 0 + i * Dat.size Rule + 1 = i * 2 + 1 from by show 0 + i * 2 + 1 = i * 2 + 1; omega]; exact h2
    | j + 2, hu => simp at hu
theorem Filled.next {rs : List Rule} {ys : List Int} {i : Nat} {cur : Array Value} {B : Nat} {w w' : World} {y : Int} {A6 : Option Addr} {c6 : Nat} (h : Filled rs ys i cur B w) (hk : ∀ (x : List Sym) (Am : Option Addr), Els w (fun b => B ≤ b ∧ b < w.heap.size) x Am → Els w' (fun b => B ≤ b ∧ b < w'.heap.size) x Am) (hy : ys[i]? = some y) (hs : i * 2 + 1 < cur.size)
    (h1 : I64 (ruleAt rs y).left) (h2 : (ruleAt rs y).right.length ≤ c6) (h3 : c6 ≤ 9223372036854775807) (h4 : Els w' (fun b => B ≤ b ∧ b < w'.heap.size) (ruleAt rs y).right A6) :
    Filled rs ys (i + 1) ((cur.setIfInBounds (i * 2) (.int .i64 (ruleAt rs y).left)).setIfInBounds (i * 2 + 1) (.slice A6 (ruleAt rs y).right.length c6)) B w' := by
  intro m y' hm hy'
  by_cases e : m = i
  · subst e
    rw [hy] at hy'
    injection hy' with hy'
    subst hy'
    exact ⟨A6, c6, by simp [Array.getElem?_setIfInBounds]; omega, by simp [Array.getElem?_setIfInBounds]; omega, h1, h2, h3, h4⟩
  · obtain ⟨Am, cm, g1, g2, g3, g4, g5, g6⟩ := h m y' (by omega) hy'
    refine ⟨Am, cm, ?_, ?_, g3, g4, g5, hk _ _ g6⟩
    · rw [Array.getElem?_setIfInBounds_ne (by omega), Array.getElem?_setIfInBounds_ne (by omega)]; exact g1
    · rw [Array.getElem?_setIfInBounds_ne (by omega), Array.getElem?_setIfInBounds_ne (by omega)]; exact g2
theorem sw_kept2 {w : World} {g i j : Nat} {u v : Value} : Kept (fun b => b = g) w ((w.setCell ⟨g, i, none⟩ u).setCell ⟨g, j, none⟩ v) := ((Kept.refl (fun b => b = g) w).setCell (p := ⟨g, i, none⟩) (.inl rfl) _).setCell (p := ⟨g, j, none⟩) (.inl rfl) _
def RetSorted (t n s : Int) (rs : List Rule) (w : World) (e : Ending) (w' : World) : Prop :=
  ∃ (ys : List Int) (g1 c1 g2 c2 : Nat), e = .returned (.tuple #[.agg #[.int .i64 t, .int .i64 n, .int .i64 s, .slice (some ⟨g1, 0, none⟩) rs.length c1], .slice (some ⟨g2, 0, none⟩) rs.length c2, .int .i64 0]) ∧ ys.Perm (idxL rs.length) ∧ SortedTo (ltAt rs) ys (rs.length - 1) ∧ (rs.length ≤ c1 ∧ c1 ≤ 9223372036854775807 ∧ rs.length ≤ c2 ∧ c2 ≤ 9223372036854775807) ∧ Els w' (fun b => w.heap.size ≤ b ∧ b < w'.heap.size) (ys.map (ruleAt rs)) (some ⟨g1, 0, none⟩) ∧ Els w' (fun b => w.heap.size ≤ b ∧ b < w'.heap.size) ys (some ⟨g2, 0, none⟩) ∧ Below w.heap.size w w'

set_option maxRecDepth 100000 in
set_option maxHeartbeats 4000000 in
theorem sortedG_any (t n s : Int) (rs : List Rule) (A : Option Addr) (c : Nat) (Sr : Nat → Prop) (w : World) (hck : checkI ⟨t, n, s, rs⟩ = 0) (h1 : 1 ≤ rs.length) (h12 : rs.length ≤ 12) (hnd : rs.Nodup) (hrr : ∀ q ∈ rs, q.right.length ≤ 1000) (hlc : rs.length ≤ c) (hc : c ≤ 9223372036854775807) (hA : Els w Sr rs A) (hSr : ∀ b, Sr b → b < w.heap.size) :
    Calls Tryd.prog 47 #[.agg #[.int .i64 t, .int .i64 n, .int .i64 s, .slice A rs.length c]] w (RetSorted t n s rs w) := by
  obtain ⟨w0, hw0⟩ : ∃ w0 : World, w0 = (w.alloc (.cells #[.int .i64 t, .int .i64 n, .int .i64 s, .slice A rs.length c] 25)).alloc (.cells #[.int .i64 0, .int .i64 0, .int .i64 0, .slice none 0 0] 25) := ⟨_, rfl⟩
  have HW0 := Lib.hid hw0
  have hb0 : Below w.heap.size w w0 := by rw [hw0]; exact ((Below.refl _ _).alloc (Nat.le_refl _) _).alloc (by simp) _
  have HP0 : Hid (Blk' w0 w.heap.size 25 #[.int .i64 t, .int .i64 n, .int .i64 s, .slice A rs.length c]) := Lib.hid (by rw [hw0]; exact (Blk'.new w _ _).alloc _)
  have HR0 : Hid (Blk' w0 (w.heap.size + 1) 25 #[.int .i64 0, .int .i64 0, .int .i64 0, .slice none 0 0]) := Lib.hid (by rw [hw0]; exact Blk'.new' _ _ _ (by simp))
  have HB0 := Lib.hid hb0
  have HA := Lib.hid hA
  have HSr := Lib.hid hSr
  have HRr := Lib.hid hrr
  have HNd := Lib.hid hnd
  have HCk := Lib.hid (check_any ⟨t, n, s, rs⟩ A c Sr w0 hlc hc (hA.below hb0))
  rw [hck] at HCk
  have p0 : w0.cell? ⟨w.heap.size, 0, none⟩ = some (.int .i64 t) := HP0.out.cell 0
  have p1 : w0.cell? ⟨w.heap.size, 1, none⟩ = some (.int .i64 n) := HP0.out.cell 1
  have p2 : w0.cell? ⟨w.heap.size, 2, none⟩ = some (.int .i64 s) := HP0.out.cell 2
  have p3 : w0.cell? ⟨w.heap.size, 3, none⟩ = some (.slice A rs.length c) := HP0.out.cell 3
  have zP0 : w.heap.size + 1 < w0.heap.size := HR0.out.lt
  have hN : (rs.length : Int) ≤ 12 := by omega
  clear hw0 hb0 hA hSr hrr hnd hck
  go_enter Tryd.func47, Tryd.ntmps47
  go_upto_region 1 with (fail)
  rw [← HW0.out]
  go_wp2_with fail
  refine HCk.out.mono ?_
  rintro e w1 ⟨rfl, hb1⟩
  have hP1 := HP0.out.below hb1 HP0.out.lt
  have HP1 := Lib.hid hP1
  have HR1 := Lib.hid (HR0.out.below hb1 HR0.out.lt)
  have HB1 := Lib.hid (bthen HB0.out hb1 HB0.out.size)
  have hz1 : w0.heap.size ≤ w1.heap.size := hb1.size
  have q3 : w1.cell? ⟨w.heap.size, 3, none⟩ = some (.slice A rs.length c) := hP1.cell 3
  clear hb1 hP1 p0 p1 p2 p3
  go_wp2_with fail
  go_loopw [6, 20] (fun v i wr => ∃ k : Nat, k ≤ rs.length ∧ i = .int .i64 k ∧ Own wr (fun _ => False) w1.heap.size 3 v (idxL k) ∧ Below w1.heap.size w1 wr) (fun _ i _ => rs.length - (intOf i).toNat)
  case atStart => exact ⟨0, Nat.zero_le _, rfl, Own.nil _ _ _ _, Below.refl _ _⟩
  case round =>
    obtain ⟨wo, hwo⟩ : ∃ wo : World, wo = wr := ⟨_, rfl⟩
    subst hwo
    obtain ⟨k, hk, rfl, hown, hb⟩ := hrel
    have HOw := Lib.hid hown
    have HB := Lib.hid hb
    clear hown hb
    by_cases hlt : k < rs.length
    · have hk1 : (k : Int) < (rs.length : Int) := by omega
      have HI := Lib.hid (show I64 (k : Int) from ⟨by omega, by omega⟩)
      have hcap1 : ((idxL k).length + 1) * 8 ≤ 140737488355328 := by rw [idxL_len]; omega
      have hcap2 : (idxL k).length + 1 ≤ 9223372036854775807 := by rw [idxL_len]; omega
      go_wp2_with (at_builtin; refine wpList_own1 _ rfl _ _ elemInt rfl rfl (HOw.out.alloc _) (k : Int) [.int .i64 (k : Int)] rfl (At.new _ _ _) ⟨rfl, HI.out⟩ hcap1 hcap2 (Nat.le_trans HB.out.size ((Below.refl _ _).alloc (Nat.le_refl _) _).size) ?_; intro v' w3 hown3 hg3 hat3; have H3 := Lib.hid (And.intro hown3 hg3); clear hown3 hg3 hat3)
      go_wp2_with fail
      go_roundw
      case rel => exact ⟨k + 1, hlt, by go_num, by rw [idxL_snoc]; exact H3.out.1, (HB.out.alloc HB.out.size _).grown H3.out.2 (by have h1 := HB.out.size; simp; omega) (fun j hj => (HOw.out.block j hj).1)⟩
      case measure => simp [intOf]; omega
    · have hkk : k = rs.length := by omega
      subst hkk
      have hne : idxL rs.length ≠ [] := by
        intro e
        have h2 := idxL_len rs.length
        rw [e] at h2
        simp at h2
        omega
      obtain ⟨g, cap, ev, hg1, hg2, hg3, hRow⟩ := HOw.out.rowI hne
      subst ev
      rw [idxL_len] at hg1 ⊢
      have HRow := Lib.hid hRow
      have hPo := HP1.out.below HB.out HP1.out.lt
      have HPo := Lib.hid hPo
      have HRo := Lib.hid (HR1.out.below HB.out HR1.out.lt)
      have HBo := Lib.hid (bthen HB1.out HB.out HB1.out.size)
      have hzo : w1.heap.size ≤ wo.heap.size := HB.out.size
      have hgo : g < wo.heap.size := hRow.lt
      have HSG : Hid (SrtG t n s rs A c w.heap.size Sr wo) := Lib.hid ⟨hPo, HA.out.belowB HBo.out HSr.out⟩
      have HSort := Lib.hid (sortFunc_any t n s rs A c w.heap.size Sr wo (idxL rs.length) g cap (by rw [idxL_len]; exact h1) (by rw [idxL_len]; exact h12) (idxL_ok HNd.out) HSG.out hRow (by omega) (fun b hb => by have h2 := HSr.out b hb; omega))
      rw [idxL_len] at HSort
      have hmf : ∀ (fn : Fn) (first cap : Array Value) (w : World), (Instr.makeFunc fn first cap).run Tryd.prog w = .ok (.func fn first cap) w := fun _ _ _ _ => rfl
      have hk1 : ¬ (rs.length : Int) < (rs.length : Int) := by omega
      clear q3 hPo hRow hne
      go_wp2_with fail
      refine HSort.out.mono ?_
      rintro e w2 ⟨rfl, ys, hY, hperm, hsort, hk2⟩
      rw [idxL_len] at hsort
      have hyl : ys.length = rs.length := by rw [hperm.length_eq, idxL_len]
      have HY := Lib.hid hY
      have HPm := Lib.hid (And.intro hperm hsort)
      have HP2 := Lib.hid (HPo.out.kept hk2 (by omega))
      have HR2 := Lib.hid (HRo.out.kept hk2 (by omega))
      have HB2 := Lib.hid (HBo.out.trans (hk2.to_below (B := w.heap.size) (fun b (hb : b = g) => by omega) HBo.out.size))
      have hz2 : wo.heap.size ≤ w2.heap.size := hk2.size
      have HCp := Lib.hid (copyG_any t n s rs A c Sr w2 (by omega) HRr.out hlc hc (HA.out.belowB HB2.out HSr.out) (fun b hb => by have h2 := HSr.out b hb; omega))
      have p0 : w2.cell? ⟨w.heap.size, 0, none⟩ = some (.int .i64 t) := HP2.out.cell 0
      have p1 : w2.cell? ⟨w.heap.size, 1, none⟩ = some (.int .i64 n) := HP2.out.cell 1
      have p2 : w2.cell? ⟨w.heap.size, 2, none⟩ = some (.int .i64 s) := HP2.out.cell 2
      have p3 : w2.cell? ⟨w.heap.size, 3, none⟩ = some (.slice A rs.length c) := HP2.out.cell 3
      clear hY hperm hsort hk2
      go_wp2_with fail
      refine HCp.out.mono ?_
      rintro e w3 ⟨v3, rfl, hO3, hb3⟩
      have hrne : rs ≠ [] := fun e => by rw [e] at h1; simp at h1
      obtain ⟨gr, cr, cur0, ev, hc31, hc32, hgr, hBk3, hsz3⟩ := hO3.blkR hrne
      subst ev
      obtain ⟨w4, hw4⟩ : ∃ w4 : World, w4 = w3.alloc (.cells #[.int .i64 t, .int .i64 n, .int .i64 s, .slice (some ⟨gr, 0, none⟩) rs.length cr] 25) := ⟨_, rfl⟩
      have HW4 := Lib.hid hw4
      have hb4 : Below w3.heap.size w3 w4 := by rw [hw4]; exact (Below.refl _ _).alloc (Nat.le_refl _) _
      have HG4 : Hid (Blk' w4 w3.heap.size 25 #[.int .i64 t, .int .i64 n, .int .i64 s, .slice (some ⟨gr, 0, none⟩) rs.length cr]) := Lib.hid (by rw [hw4]; exact Blk'.new w3 _ _)
      have hb24 := bthen hb3 hb4 hb3.size
      have HP4 := Lib.hid (HP2.out.below hb24 HP2.out.lt)
      have HR4 := Lib.hid (HR2.out.below hb24 HR2.out.lt)
      have HY4 := Lib.hid (HY.out.below hb24)
      have HB4 := Lib.hid (bthen HB2.out hb24 HB2.out.size)
      have HBk4 := Lib.hid (hBk3.below hb4 hBk3.lt)
      have hgr3 : gr < w3.heap.size := hBk3.lt
      have hz23 : w2.heap.size ≤ w3.heap.size := hb3.size
      have hz34 : w3.heap.size < w4.heap.size := HG4.out.lt
      have HSz := Lib.hid (show rs.length * 2 ≤ cur0.size from hsz3)
      clear hO3 hb3 hb4 hb24 hBk3 hsz3 hw4 p0 p1 p2 p3
      go_upto_region 13 with (fail)
      rw [← HW4.out]
      go_wp2_with fail
      go_loopw [35] (fun v wr => ∃ (i : Nat) (cur : Array Value), i ≤ rs.length ∧ v = .int .i64 i ∧ Blk' wr gr 61 cur ∧ rs.length * 2 ≤ cur.size ∧ Filled rs ys i cur w4.heap.size wr ∧ Kept (fun b => b = gr) w4 wr) (fun v _ => rs.length - (intOf v).toNat)
      case atStart => exact ⟨0, _, Nat.zero_le _, rfl, HBk4.out, HSz.out, fun m y h => absurd h (Nat.not_lt_zero _), Kept.refl _ _⟩
      case round =>
        obtain ⟨wp, hwp⟩ : ∃ wp : World, wp = wr := ⟨_, rfl⟩
        subst hwp
        obtain ⟨i, cur, hi, rfl, hbk, hsz, hfil, hkp⟩ := hrel
        have HBk := Lib.hid hbk
        have HFil := Lib.hid hfil
        have HKp := Lib.hid hkp
        have HCs := Lib.hid hsz
        have hG := HG4.out.kept hkp (by omega)
        have hP := HP4.out.kept hkp (by omega)
        have hYp := HY4.out.kept hkp (by omega)
        have hzp : w4.heap.size ≤ wp.heap.size := hkp.size
        have zgr : gr < wp.heap.size := hbk.lt
        by_cases hlt : i < rs.length
        · obtain ⟨y, hy⟩ := get_some (show i < ys.length by omega)
          obtain ⟨kn, hkn, hkl⟩ : ∃ k : Nat, y = (k : Int) ∧ k < rs.length := by
            have h2 := HPm.out.1.subset (List.mem_of_getElem? hy)
            obtain ⟨k, hk, rfl⟩ := List.mem_map.1 h2
            exact ⟨k, rfl, List.mem_range.1 hk⟩
          subst hkn
          obtain ⟨q, hq⟩ := get_some hkl
          have hqa := ruleAt_get hq
          obtain ⟨bq, oq, Aq, cq, eA, hSb, hbs, hqi, hrc, hcr, hEr, hc0, hc1⟩ := (HA.out.belowB (HB4.out.trans (hkp.to_below (B := w.heap.size) (fun b (hb : b = gr) => by omega) HB4.out.size)) HSr.out).rule hq
          subst eA
          have hql := HRr.out q (List.mem_of_getElem? hq)
          have yc : wp.cell? ⟨g, i, none⟩ = some (.int .i64 kn) := hYp.cell hy
          have g3 : wp.cell? ⟨w3.heap.size, 3, none⟩ = some (.slice (some ⟨gr, 0, none⟩) rs.length cr) := hG.cell 3
          have p3 : wp.cell? ⟨w.heap.size, 3, none⟩ = some (.slice (some ⟨bq, oq, none⟩) rs.length c) := hP.cell 3
          have zG : w3.heap.size < wp.heap.size := hG.lt
          have zP : w.heap.size < wp.heap.size := hP.lt
          have hi0 : (0 : Int) ≤ (i : Int) := by omega
          have hi1 : (i : Int) < (rs.length : Int) := by omega
          have hk0 : (0 : Int) ≤ (kn : Int) := by omega
          have hk1' : (kn : Int) < (rs.length : Int) := by omega
          have n1 : ¬ gr = w3.heap.size := by omega
          have n2 : ¬ gr = w.heap.size := by omega
          have n3 : ¬ gr = bq := by have h2 := HSr.out bq hSb; omega
          obtain ⟨a0, ha0⟩ : ∃ a0, cur[i * 2]? = some a0 := ⟨_, Array.getElem?_eq_getElem (by omega)⟩
          obtain ⟨a1, ha1⟩ : ∃ a1, cur[i * 2 + 1]? = some a1 := ⟨_, Array.getElem?_eq_getElem (by omega)⟩
          have HQ := Lib.hid (And.intro hqi (And.intro hrc (And.intro hcr hqa)))
          have HEr := Lib.hid hEr
          have HY2 := Lib.hid hy
          have HA01 := Lib.hid (And.intro ha0 ha1)
          clear hbk hfil hkp hsz hG hP hYp hEr hy hq hSb hqi hrc hcr hqa ha0 ha1
          go_wp2_with fail
          refine wp_region_noPanic ?_
          refine wp_region_held_drew (S := (fun w' => w'.cell? ⟨w3.heap.size, 3, none⟩ = some (.slice (some ⟨gr, 0, none⟩) rs.length cr) ∧ w'.cell? ⟨w.heap.size, 3, none⟩ = some (.slice (some ⟨bq, oq, none⟩) rs.length c) ∧ w'.cell? ⟨bq, oq + kn * 2, none⟩ = some (.int .i64 q.left) ∧ w'.cell? ⟨bq, oq + kn * 2 + 1, none⟩ = some (.slice Aq q.right.length cq))) (by kernel_rfl) ?ha (fun hHeld => ?ba)
          case ha => ((try dsimp only); go_keep)
          refine take_run (i := 0) (v := ?va0) rfl (by kernel_rfl) (by kernel_rfl) (by kernel_rfl) (fun _ _ _ h => h) (by rfl) ?ya0 (by assumption) ?ra0
          case ya0 => (intro w hSw; (try dsimp only at hSw); go_simp; try with_reducible rfl)
          try simp only [Act.put, List.setIfInBounds_toArray, List.set_cons_zero, List.set_cons_succ]
          refine take_run (i := 1) (v := ?va1) rfl (by kernel_rfl) (by kernel_rfl) (by kernel_rfl) (fun _ _ _ h => h) (by rfl) ?ya1 (by assumption) ?ra1
          case ya1 => (intro w hSw; (try dsimp only at hSw); go_simp; try with_reducible rfl)
          try simp only [Act.put, List.setIfInBounds_toArray, List.set_cons_zero, List.set_cons_succ]
          refine take_run (i := 2) (v := ?va2) rfl (by kernel_rfl) (by kernel_rfl) (by kernel_rfl) (fun _ _ _ h => h) (by rfl) ?ya2 (by assumption) ?ra2
          case ya2 => (intro w hSw; (try dsimp only at hSw); go_simp; try with_reducible rfl)
          try simp only [Act.put, List.setIfInBounds_toArray, List.set_cons_zero, List.set_cons_succ]
          refine take_run (i := 3) (v := ?va3) rfl (by kernel_rfl) (by kernel_rfl) (by kernel_rfl) (fun _ _ _ h => h) (by rfl) ?ya3 (by assumption) ?ra3
          case ya3 => (intro w hSw; (try dsimp only at hSw); go_simp; try with_reducible rfl)
          try simp only [Act.put, List.setIfInBounds_toArray, List.set_cons_zero, List.set_cons_succ]
          refine take_run (i := 4) (v := ?va4) rfl (by kernel_rfl) (by kernel_rfl) (by kernel_rfl) (fun _ _ _ h => h) (by rfl) ?ya4 (by assumption) ?ra4
          case ya4 => (intro w hSw; (try dsimp only at hSw); go_simp; try with_reducible rfl)
          try simp only [Act.put, List.setIfInBounds_toArray, List.set_cons_zero, List.set_cons_succ]
          refine take_run (i := 5) (v := ?va5) rfl (by kernel_rfl) (by kernel_rfl) (by kernel_rfl) (fun _ _ _ h => h) (by rfl) ?ya5 (by assumption) ?ra5
          case ya5 => (intro w hSw; (try dsimp only at hSw); go_simp; try with_reducible rfl)
          try simp only [Act.put, List.setIfInBounds_toArray, List.set_cons_zero, List.set_cons_succ]
          refine take_run (i := 6) (v := ?va6) rfl (by kernel_rfl) (by kernel_rfl) (by kernel_rfl) (fun _ _ _ h => h) (by rfl) ?ya6 (by assumption) ?ra6
          case ya6 => (intro w hSw; (try dsimp only at hSw); go_simp; try with_reducible rfl)
          try simp only [Act.put, List.setIfInBounds_toArray, List.set_cons_zero, List.set_cons_succ]
          refine take_run (i := 7) (v := ?va7) rfl (by kernel_rfl) (by kernel_rfl) (by kernel_rfl) (fun _ _ _ h => h) (by rfl) ?ya7 (by assumption) ?ra7
          case ya7 => (intro w hSw; (try dsimp only at hSw); go_simp; try with_reducible rfl)
          try simp only [Act.put, List.setIfInBounds_toArray, List.set_cons_zero, List.set_cons_succ]
          refine take_run (i := 8) (v := ?va8) rfl (by kernel_rfl) (by kernel_rfl) (by kernel_rfl) (fun _ _ _ h => h) (by rfl) ?ya8 (by assumption) ?ra8
          case ya8 => (intro w hSw; (try dsimp only at hSw); go_simp; try with_reducible rfl)
          try simp only [Act.put, List.setIfInBounds_toArray, List.set_cons_zero, List.set_cons_succ]
          refine take_run (i := 9) (v := ?va9) rfl (by kernel_rfl) (by kernel_rfl) (by kernel_rfl) (fun _ _ _ h => h) (by rfl) ?ya9 (by assumption) ?ra9
          case ya9 => (intro w hSw; (try dsimp only at hSw); go_simp; try with_reducible rfl)
          try simp only [Act.put, List.setIfInBounds_toArray, List.set_cons_zero, List.set_cons_succ]
          refine take_run (i := 10) (v := ?va10) rfl (by kernel_rfl) (by kernel_rfl) (by kernel_rfl) (fun _ _ _ h => h) (by rfl) ?ya10 (by assumption) ?ra10
          case ya10 => (intro w hSw; (try dsimp only at hSw); go_simp; try with_reducible rfl)
          try simp only [Act.put, List.setIfInBounds_toArray, List.set_cons_zero, List.set_cons_succ]
          refine take_run (i := 11) (v := ?va11) rfl (by kernel_rfl) (by kernel_rfl) (by kernel_rfl) (fun _ _ _ h => h) (by rfl) ?ya11 (by assumption) ?ra11
          case ya11 => (intro w hSw; (try dsimp only at hSw); go_simp; try with_reducible rfl)
          try simp only [Act.put, List.setIfInBounds_toArray, List.set_cons_zero, List.set_cons_succ]
          refine take_run (i := 12) (v := ?va12) rfl (by kernel_rfl) (by kernel_rfl) (by kernel_rfl) (fun _ _ _ h => h) (by rfl) ?ya12 (by assumption) ?ra12
          case ya12 => (intro w hSw; (try dsimp only at hSw); go_simp; try with_reducible rfl)
          try simp only [Act.put, List.setIfInBounds_toArray, List.set_cons_zero, List.set_cons_succ]
          refine take_run (i := 13) (v := ?va13) rfl (by kernel_rfl) (by kernel_rfl) (by kernel_rfl) (fun _ _ _ h => h) (by rfl) ?ya13 (by assumption) ?ra13
          case ya13 => (intro w hSw; (try dsimp only at hSw); go_simp; try with_reducible rfl)
          try simp only [Act.put, List.setIfInBounds_toArray, List.set_cons_zero, List.set_cons_succ]
          refine take_run (i := 14) (v := ?va14) rfl (by kernel_rfl) (by kernel_rfl) (by kernel_rfl) (fun _ _ _ h => h) (by rfl) ?ya14 (by assumption) ?ra14
          case ya14 => (intro w hSw; (try dsimp only at hSw); go_simp; try with_reducible rfl)
          try simp only [Act.put, List.setIfInBounds_toArray, List.set_cons_zero, List.set_cons_succ]
          refine take_call (i := 15) rfl (by kernel_rfl) (by rfl) (fun Kq hK => ?_)
          go_simp
          go_at_call 27
          refine (cloneSym_any q.right Aq cq _ Sr wp.drew rfl (by omega) (HEr.out.below ((Below.refl _ _).drew)) (fun b hb => by have h2 := HSr.out b hb; show b < wp.heap.size; omega)).mono ?_
          rintro e w6 ⟨A6, c6, rfl, h61, h62, hE6, hb6⟩
          have hb6u := bundrew hb6
          have n0 := (hb6u.cell (p := ⟨w3.heap.size, 3, none⟩) zG).trans g3
          have n10 := (hb6u.cell (p := ⟨w.heap.size, 3, none⟩) zP).trans p3
          have n11 := (hb6u.cell (p := ⟨bq, oq + kn * 2, none⟩) hbs).trans hc0
          have n12 := (hb6u.cell (p := ⟨bq, oq + kn * 2 + 1, none⟩) hbs).trans hc1
          have hbk6 := HBk.out.below hb6u zgr
          have z0 : w6.cell? ⟨gr, i * 2, none⟩ = some a0 := by rw [hbk6.cell]; exact HA01.out.1
          have z1 : w6.cell? ⟨gr, i * 2 + 1, none⟩ = some a1 := by rw [hbk6.cell]; exact HA01.out.2
          have f0 := hbk6.frozen (i * 2)
          have f1 := hbk6.frozen (i * 2 + 1)
          have zg6 : gr < w6.heap.size := hbk6.lt
          have H6 := Lib.hid (And.intro hbk6 (And.intro (And.intro h61 (And.intro h62 hE6)) hb6u))
          clear h61 h62 hE6 hb6 hb6u hbk6
          refine hK.out _ _ ?ha15 (fun hHeld => ?ra15)
          case ha15 => ((try dsimp only); go_keep)
          clear hK Kq
          try simp only [Act.put, List.setIfInBounds_toArray, List.set_cons_zero, List.set_cons_succ]
          refine take_run (i := 16) (v := ?va16) rfl (by kernel_rfl) (by kernel_rfl) (by kernel_rfl) (fun _ _ _ h => h) (by rfl) ?ya16 (by assumption) ?ra16
          case ya16 => (intro w hSw; (try dsimp only at hSw); go_simp; try with_reducible rfl)
          try simp only [Act.put, List.setIfInBounds_toArray, List.set_cons_zero, List.set_cons_succ]
          refine take_run (i := 17) (v := ?va17) rfl (by kernel_rfl) (by kernel_rfl) (by kernel_rfl) (fun _ _ _ h => h) (by rfl) ?ya17 (by assumption) ?ra17
          case ya17 => (intro w hSw; (try dsimp only at hSw); go_simp; try with_reducible rfl)
          try simp only [Act.put, List.setIfInBounds_toArray, List.set_cons_zero, List.set_cons_succ]
          refine take_call (i := 18) rfl (by kernel_rfl) (by rfl) (fun Kq hK => ?_)
          go_simp
          refine hK.out _ _ ?ha18 (fun hHeld => ?ra18)
          case ha18 => ((try dsimp only); go_keep)
          clear hK Kq
          try simp only [Act.put, List.setIfInBounds_toArray, List.set_cons_zero, List.set_cons_succ]
          refine wpAnyH_done (by kernel_rfl) ?_ _
          refine NoPanic.normal ?_
          go_wp2_with fail
          go_roundw
          case rel =>
            refine ⟨i + 1, _, hlt, by go_num, (H6.out.1.set_ (i * 2) (.int .i64 q.left)).set_ (i * 2 + 1) (.slice A6 q.right.length c6), by simp; exact HCs.out, ?_, ?_⟩
            · have hn := HFil.out.next (w' := (w6.setCell ⟨gr, i * 2, none⟩ (.int .i64 q.left)).setCell ⟨gr, i * 2 + 1, none⟩ (.slice A6 q.right.length c6)) (A6 := A6) (c6 := c6) (fun x Am hx => (hx.below H6.out.2.2).kept sw_kept2 (fun b hb (e : b = gr) => by have h2 := hb.1; omega) |>.keep (fun _ _ _ => rfl) (fun b hb => ⟨hb.1, by have h2 := hb.2; have h3 := H6.out.2.2.size; simp [World.setCell]; omega⟩)) HY2.out (by have h2 := HCs.out; omega) (by rw [HQ.out.2.2.2]; exact HQ.out.1) (by rw [HQ.out.2.2.2]; exact H6.out.2.1.1) H6.out.2.1.2.1 (by
                rw [HQ.out.2.2.2]
                exact (H6.out.2.1.2.2.kept sw_kept2 (fun b hb (e : b = gr) => by have h2 : wp.heap.size ≤ b := hb.1; omega)).keep (fun _ _ _ => rfl) (fun b hb => ⟨by have h2 : wp.heap.size ≤ b := hb.1; omega, by have h2 := hb.2; simp [World.setCell]; exact h2⟩))
              rw [HQ.out.2.2.2] at hn
              exact hn
            · exact (HKp.out.below H6.out.2.2).trans sw_kept2
          case measure => simp [intOf]; omega
        · have hii : i = rs.length := by omega
          subst hii
          have hEl := HFil.out
          rw [← hyl] at hEl
          have HEl := Lib.hid (hEl.els (S := fun b => w.heap.size + 1 < b ∧ b < wp.heap.size) hbk ⟨by omega, zgr⟩ (fun b h2 h3 => ⟨by omega, h3⟩))
          have HEy := Lib.hid (hYp.els (S := fun b => w.heap.size + 1 < b ∧ b < wp.heap.size) (fun v hv => by
            obtain ⟨k, hk, rfl⟩ := List.mem_map.1 (HPm.out.1.subset hv)
            have h2 := List.mem_range.1 hk
            exact ⟨by omega, by omega⟩) ⟨by omega, hYp.lt⟩)
          have hR := HR4.out.kept hkp (by omega)
          have HBp := Lib.hid (HB4.out.trans (hkp.to_below (B := w.heap.size) (fun b (hb : b = gr) => by omega) HB4.out.size))
          have HR := Lib.hid hR
          have g0 : wp.cell? ⟨w3.heap.size, 0, none⟩ = some (.int .i64 t) := hG.cell 0
          have g1 : wp.cell? ⟨w3.heap.size, 1, none⟩ = some (.int .i64 n) := hG.cell 1
          have g2 : wp.cell? ⟨w3.heap.size, 2, none⟩ = some (.int .i64 s) := hG.cell 2
          have g3 : wp.cell? ⟨w3.heap.size, 3, none⟩ = some (.slice (some ⟨gr, 0, none⟩) rs.length cr) := hG.cell 3
          have s0 : wp.cell? ⟨w.heap.size + 1, 0, none⟩ = some (.int .i64 0) := hR.cell 0
          have s1 : wp.cell? ⟨w.heap.size + 1, 1, none⟩ = some (.int .i64 0) := hR.cell 1
          have s2 : wp.cell? ⟨w.heap.size + 1, 2, none⟩ = some (.int .i64 0) := hR.cell 2
          have s3 : wp.cell? ⟨w.heap.size + 1, 3, none⟩ = some (.slice none 0 0) := hR.cell 3
          have r0 := hR.frozen 0
          have r1 := hR.frozen 1
          have r2 := hR.frozen 2
          have r3 := hR.frozen 3
          have zR : w.heap.size + 1 < wp.heap.size := hR.lt
          clear hbk hfil hkp hsz hG hP hYp hR hEl
          go_wp2_with fail
          generalize hwF : World.setCell _ _ _ = wF
          have kF : Kept (fun b => b = w.heap.size + 1) wp wF := by rw [← hwF]; exact ((((Kept.refl (fun b => b = w.heap.size + 1) wp).setCell (p := ⟨w.heap.size + 1, 0, none⟩) (.inl rfl) _).setCell (p := ⟨w.heap.size + 1, 1, none⟩) (.inl rfl) _).setCell (p := ⟨w.heap.size + 1, 2, none⟩) (.inl rfl) _).setCell (p := ⟨w.heap.size + 1, 3, none⟩) (.inl rfl) _
          have hRF : Blk' wF (w.heap.size + 1) 25 #[.int .i64 t, .int .i64 n, .int .i64 s, .slice (some ⟨gr, 0, none⟩) rs.length cr] := by rw [← hwF]; exact (((HR.out.set_ 0 _).set_ 1 _).set_ 2 _).set_ 3 _
          have u0 : wF.cell? ⟨w.heap.size + 1, 0, none⟩ = some (.int .i64 t) := hRF.cell 0
          have u1 : wF.cell? ⟨w.heap.size + 1, 1, none⟩ = some (.int .i64 n) := hRF.cell 1
          have u2 : wF.cell? ⟨w.heap.size + 1, 2, none⟩ = some (.int .i64 s) := hRF.cell 2
          have u3 : wF.cell? ⟨w.heap.size + 1, 3, none⟩ = some (.slice (some ⟨gr, 0, none⟩) rs.length cr) := hRF.cell 3
          have hzF : wF.heap.size = wp.heap.size := by rw [← hwF]; simp [World.setCell]
          clear hwF
          refine bodyPost_ret (v := .tuple #[.agg #[.int .i64 t, .int .i64 n, .int .i64 s, .slice (some ⟨gr, 0, none⟩) rs.length cr], .slice (some ⟨g, 0, none⟩) rs.length cap, .int .i64 0]) (by simp [results, Tryd.results47, go_sem, u0, u1, u2, u3]) rfl ⟨ys, gr, cr, g, cap, rfl, HPm.out.1, HPm.out.2, ⟨hc31, hc32, hg1, hg2⟩, ?_, ?_, ?_⟩
          · exact (HEl.out.kept kF (fun b hb (e : b = w.heap.size + 1) => by have h2 := hb.1; omega)).keep (fun _ _ _ => rfl) (fun b hb => ⟨by have h2 := hb.1; omega, by rw [hzF]; exact hb.2⟩)
          · exact (HEy.out.kept kF (fun b hb (e : b = w.heap.size + 1) => by have h2 := hb.1; omega)).keep (fun _ _ _ => rfl) (fun b hb => ⟨by have h2 := hb.1; omega, by rw [hzF]; exact hb.2⟩)
          · exact HBp.out.trans (kF.to_below (B := w.heap.size) (fun b (hb : b = w.heap.size + 1) => by omega) HBp.out.size)
end Go.Proofs.YtaidadjekfcacaaDoor
