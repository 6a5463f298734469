/- Contract: (*normal.form).close: which nonterminals lead to others. -/
import Derived.Test.YtecofoilghdedaaDoorQNormSym
import Derived.Test.YtecofoilghdedaaDoorQp1
import Derived.Deep.Cut
namespace Go.Proofs.YtecofoilghdedaaDoor
open Go.RowKit
set_option linter.unusedVariables false

def diagB (n k : Nat) : List Bool := (List.replicate n false).set k true
theorem diagB_len (n k : Nat) : (diagB n k).length = n := by simp [diagB]
theorem diag_gt (n a b : Nat) : Gt ((List.range n).map (diagB n)) a b ↔ (a = b ∧ a < n) := by
  unfold Gt
  rw [List.getD_eq_getElem?_getD, List.getElem?_map]
  by_cases ha : a < n
  · rw [List.getElem?_range ha]
    rw [Option.map_some, Option.getD_some, diagB, List.getElem?_set]
    by_cases e : a = b
    · subst e
      simp [ha]
    · rw [if_neg e]
      simp [e, List.getElem?_replicate]
  · rw [List.getElem?_eq_none (l := List.range n) (by rw [List.length_range]; omega)]
    simp [ha]
def ClK (P N : Nat) (F : Value → Array Value) (w : World) (i : Value) (wr : World) : Prop :=
  ∃ (k : Nat) (v : Value) (bs : List Nat), k ≤ N ∧ i = .int .i64 k ∧ bs.length = k ∧ Blk' wr P 111 (F v) ∧ RowK wr w.heap.size N v bs ((List.range k).map (diagB N)) ∧ Kept (fun b => b = P) w wr
/-- What stays in the loops behind the first one: the block of the form, the rows. -/
structure ClS (P N bf cf : Nat) (bs : List Nat) (F : Value → Array Value) (w wr : World) (f : List (List Bool)) : Prop where
  ptr : Blk' wr P 111 (F (.slice (some ⟨bf, 0, none⟩) N cf))
  rows : RowsM wr bf bs N N cf f
  kept : Kept (fun b => b = P) w wr
def RetClose (P N : Nat) (F : Value → Array Value) (ps : List Part) (w : World) (e : Ending) (w' : World) : Prop :=
  ∃ bf bs cf f, e = .returned (.tuple #[]) ∧ ClS P N bf cf bs F w w' f ∧ (∀ a b, a < N → b < N → (Gt f a b ↔ Leads N ps a b)) ∧ (∀ b ∈ bf :: bs, w.heap.size ≤ b)
theorem ClS.below {P N bf cf : Nat} {bs : List Nat} {F : Value → Array Value} {w wr wx : World} {f : List (List Bool)} (h : ClS P N bf cf bs F w wr f) (hb : Below wr.heap.size wr wx) : ClS P N bf cf bs F w wx f :=
  ⟨h.ptr.below hb h.ptr.lt, h.rows.below hb, h.kept.below hb⟩
theorem ClS.setRow {P N bf cf : Nat} {bs : List Nat} {F : Value → Array Value} {w wr : World} {f : List (List Bool)} (h : ClS P N bf cf bs F w wr f) (hP : P < w.heap.size) (hbs : ∀ b ∈ bs, w.heap.size ≤ b) {i j bi : Nat} {r : List Bool} (hi : bs[i]? = some bi) (hr : f[i]? = some r) (x : Bool) : ClS P N bf cf bs F w (wr.setCell ⟨bi, j, none⟩ (.bool x)).drew (f.set i ((f.getD i []).set j x)) := by
  have hge := hbs bi (List.mem_of_getElem? hi)
  have hk : Kept (fun b => b = bi) wr (wr.setCell ⟨bi, j, none⟩ (.bool x)).drew := ((Kept.refl (fun b => b = bi) wr).setCell (p := ⟨bi, j, none⟩) (.inl rfl) _).drew
  have hB := h.rows.rows i bi r hi hr
  refine ⟨h.ptr.kept hk (by omega), ?_, h.kept.later hk (fun b hb => .inr (by omega))⟩
  rw [List.getD_eq_getElem?_getD, hr]
  exact h.rows.setRow hi hk (by simp only [Option.getD_some]; rw [← bcells_set]; exact (hB.1.set_ j _).drew) (by simp [hB.2])

set_option maxRecDepth 100000 in
set_option maxHeartbeats 8000000 in
theorem close_any (P N NB : Nat) (v0 v1 v2 v3 v4 v5 v10 : Value) (AP : Option Addr) (cp : Nat) (SP : Nat → Prop) (ps : List Part) (nb : List Bool) (w : World) (hP : Blk' w P 111 #[v0, v1, v2, v3, v4, v5, .int .i64 (N : Int), .slice AP ps.length cp, .slice (some ⟨NB, 0, none⟩) N N, .slice none 0 0, v10])
    (hN1 : 1 ≤ N) (hN : N ≤ 1000) (hpl : ps.length ≤ 1000) (hcl : ps.length ≤ cp) (hcp : cp ≤ 9223372036854775807) (hE : Els w SP ps AP) (hSP : ∀ b, SP b → b ≠ P ∧ b < w.heap.size) (hNB : Blk' w NB 4 (bcells nb)) (hNP : NB ≠ P) (hnul : NulRow N ps nb) (hok : ∀ p ∈ ps, PartOk N p) :
    Calls Tryd.prog 105 #[.pointer (some ⟨P, 0, none⟩)] w (RetClose P N (fun v => #[v0, v1, v2, v3, v4, v5, .int .i64 (N : Int), .slice AP ps.length cp, .slice (some ⟨NB, 0, none⟩) N N, v, v10]) ps w) := by
  have HE := Lib.hid hE
  have HSP := Lib.hid hSP
  have HNB := Lib.hid hNB
  have HNP := Lib.hid hNP
  have HNU := Lib.hid hnul
  have HOK := Lib.hid hok
  have HPw := Lib.hid hP
  have hmk2 := make_eq N (by omega)
  have p6 : w.cell? ⟨P, 6, none⟩ = some (.int .i64 (N : Int)) := hP.cell 6
  have zP : P < w.heap.size := hP.lt
  have HPz : Hid (P < w.heap.size ∧ NB < w.heap.size) := Lib.hid ⟨hP.lt, hNB.lt⟩
  clear hE hSP hNB hnul hok hP hNP
  go_enter Tryd.func105, Tryd.ntmps105
  go_wp2_with fail
  clear p6 zP
  go_loopw [14] (fun i wr => ClK P N (fun v => #[v0, v1, v2, v3, v4, v5, .int .i64 (N : Int), .slice AP ps.length cp, .slice (some ⟨NB, 0, none⟩) N N, v, v10]) w i wr) (fun i _ => N - (intOf i).toNat)
  case atStart => exact ⟨0, _, [], Nat.zero_le _, rfl, rfl, HPw.out, RowK.nil _ _ _, Kept.refl _ _⟩
  case round =>
    obtain ⟨wo, hwo⟩ : ∃ wo : World, wo = wr := ⟨_, rfl⟩
    subst hwo
    obtain ⟨k, v, bs, hk, rfl, hbl, hPo, hR, hKo⟩ := hrel
    dsimp only at hPo
    have HPo := Lib.hid hPo
    have HR := Lib.hid hR
    have HKo := Lib.hid hKo
    have HBl := Lib.hid hbl
    clear hPo hR hKo hbl
    by_cases hkn : k < N
    · have hk0 : (0 : Int) ≤ (k : Int) := by omega
      have hk9 : (k : Int) < (N : Int) := by omega
      have p6 : wo.cell? ⟨P, 6, none⟩ = some (.int .i64 (N : Int)) := HPo.out.cell 6
      have p9 : wo.cell? ⟨P, 9, none⟩ = some v := HPo.out.cell 9
      have zP : P < wo.heap.size := HPo.out.lt
      go_wp2_with fail
      refine wp_region_noPanic ?_
      refine stage_start (S := (fun w' => w'.cell? ⟨P, 9, none⟩ = some v ∧ w'.cell? ⟨P, 6, none⟩ = some (.int .i64 (N : Int)))) 14 (by kernel_rfl) ?ha (fun hHeld => ?ba)
      case ha => ((try dsimp only); go_keep)
      refine st_pure (i := 0) (v := ?va0) rfl (by kernel_rfl) (by kernel_rfl) (by kernel_rfl) (by kernel_rfl) (fun _ _ _ h => h) (by rfl) ?ya0 (.inl (by assumption)) ?ra0
      case ya0 => (intro w; go_simp; try with_reducible rfl)
      try simp only [Act.put, List.setIfInBounds_toArray, List.set_cons_zero, List.set_cons_succ]
      refine st_pure (i := 1) (v := ?va1) rfl (by kernel_rfl) (by kernel_rfl) (by kernel_rfl) (by kernel_rfl) (fun _ _ _ h => h) (by rfl) ?ya1 (.inl (by assumption)) ?ra1
      case ya1 => (intro w; go_simp; try with_reducible rfl)
      try simp only [Act.put, List.setIfInBounds_toArray, List.set_cons_zero, List.set_cons_succ]
      refine st_pure (i := 2) (v := ?va2) rfl (by kernel_rfl) (by kernel_rfl) (by kernel_rfl) (by kernel_rfl) (fun _ _ _ h => h) (by rfl) ?ya2 (.inl (by assumption)) ?ra2
      case ya2 => (intro w; go_simp; try with_reducible rfl)
      try simp only [Act.put, List.setIfInBounds_toArray, List.set_cons_zero, List.set_cons_succ]
      refine st_pure (i := 3) (v := ?va3) rfl (by kernel_rfl) (by kernel_rfl) (by kernel_rfl) (by kernel_rfl) (fun _ _ _ h => h) (by rfl) ?ya3 (.inl (by assumption)) ?ra3
      case ya3 => (intro w; go_simp; try with_reducible rfl)
      try simp only [Act.put, List.setIfInBounds_toArray, List.set_cons_zero, List.set_cons_succ]
      refine st_run (i := 4) (v := ?va4) rfl (by kernel_rfl) (by kernel_rfl) (by kernel_rfl) (by kernel_rfl) (fun _ _ _ h => h) (by rfl) ?ya4 (by assumption) ?ra4
      case ya4 => (intro w hSw; (try dsimp only at hSw); go_simp; try with_reducible rfl)
      try simp only [Act.put, List.setIfInBounds_toArray, List.set_cons_zero, List.set_cons_succ]
      refine st_pure (i := 5) (v := ?va5) rfl (by kernel_rfl) (by kernel_rfl) (by kernel_rfl) (by kernel_rfl) (fun _ _ _ h => h) (by rfl) ?ya5 (.inl (by assumption)) ?ra5
      case ya5 => (intro w; go_simp; try with_reducible rfl)
      try simp only [Act.put, List.setIfInBounds_toArray, List.set_cons_zero, List.set_cons_succ]
      refine st_pure (i := 6) (v := ?va6) rfl (by kernel_rfl) (by kernel_rfl) (by kernel_rfl) (by kernel_rfl) (fun _ _ _ h => h) (by rfl) ?ya6 (.inl (by assumption)) ?ra6
      case ya6 => (intro w; go_simp; try with_reducible rfl)
      try simp only [Act.put, List.setIfInBounds_toArray, List.set_cons_zero, List.set_cons_succ]
      refine st_pure (i := 7) (v := ?va7) rfl (by kernel_rfl) (by kernel_rfl) (by kernel_rfl) (by kernel_rfl) (fun _ _ _ h => h) (by rfl) ?ya7 (.inl (by assumption)) ?ra7
      case ya7 => (intro w; go_simp; try with_reducible rfl)
      try simp only [Act.put, List.setIfInBounds_toArray, List.set_cons_zero, List.set_cons_succ]
      refine st_run (i := 8) (v := ?va8) rfl (by kernel_rfl) (by kernel_rfl) (by kernel_rfl) (by kernel_rfl) (fun _ _ _ h => h) (by rfl) ?ya8 (by assumption) ?ra8
      case ya8 => (intro w hSw; (try dsimp only at hSw); go_simp; try with_reducible rfl)
      try simp only [Act.put, List.setIfInBounds_toArray, List.set_cons_zero, List.set_cons_succ]
      refine st_one (i := 9) rfl (by kernel_rfl) (by rfl) (fun Kq hK => ?_)
      go_simp
      obtain ⟨w3, hw3⟩ : ∃ w3 : World, w3 = wo.alloc (.cells (bcells (List.replicate N false)) 4) := ⟨_, rfl⟩
      have hb3 : Below wo.heap.size wo w3 := by rw [hw3]; exact (Below.refl _ _).alloc (Nat.le_refl _) _
      have HB3 := Lib.hid hb3
      have HR3 : Hid (Blk' w3 wo.heap.size 4 (bcells (List.replicate N false))) := Lib.hid (by rw [hw3]; exact Blk'.new _ _ _)
      have HZ3 : Hid (w3.heap.size = wo.heap.size + 1) := Lib.hid (by rw [hw3]; simp)
      rw [← hw3]
      clear hw3 hb3
      have p9a : w3.cell? ⟨P, 9, none⟩ = some v := (HB3.out.cell (p := ⟨P, 9, none⟩) zP).trans p9
      have p6a : w3.cell? ⟨P, 6, none⟩ = some (.int .i64 (N : Int)) := (HB3.out.cell (p := ⟨P, 6, none⟩) zP).trans p6
      refine hK.out _ _ ?ha9 (fun hHeld => ?ra9)
      case ha9 => ((try dsimp only); go_keep)
      clear hK Kq
      try simp only [Act.put, List.setIfInBounds_toArray, List.set_cons_zero, List.set_cons_succ]
      refine st_one (i := 10) rfl (by kernel_rfl) (by rfl) (fun Kq hK => ?_)
      go_simp
      obtain ⟨w4, hw4⟩ : ∃ w4 : World, w4 = (w3.alloc (.cells #[.slice (some ⟨wo.heap.size, 0, none⟩) N N] 85)).drew := ⟨_, rfl⟩
      have hb4 : Below wo.heap.size wo w4 := by rw [hw4]; exact ((HB3.out).alloc (by have := HZ3.out; show wo.heap.size ≤ w3.heap.size; omega) _).drew
      have HB4 := Lib.hid hb4
      have hat4 : w4.cell? ⟨w3.heap.size, 0, none⟩ = some (.slice (some ⟨wo.heap.size, 0, none⟩) N N) := by rw [hw4]; exact At.new w3 [.slice (some ⟨wo.heap.size, 0, none⟩) N N] 85 0 _ rfl
      have HAt4 := Lib.hid hat4
      have HR4 : Hid (Blk' w4 wo.heap.size 4 (bcells (List.replicate N false))) := Lib.hid (by rw [hw4]; exact HR3.out.alloc _)
      have HZ4 : Hid (w4.heap.size = wo.heap.size + 2) := Lib.hid (by rw [hw4]; have := HZ3.out; simp; omega)
      have HW4 := Lib.hid hw4
      rw [← hw4]
      clear hw4 hb4 hat4
      have p9b : w4.cell? ⟨P, 9, none⟩ = some v := (HB4.out.cell (p := ⟨P, 9, none⟩) zP).trans p9
      have p6b : w4.cell? ⟨P, 6, none⟩ = some (.int .i64 (N : Int)) := (HB4.out.cell (p := ⟨P, 6, none⟩) zP).trans p6
      refine hK.out _ _ ?ha10 (fun hHeld => ?ra10)
      case ha10 => ((try dsimp only); go_keep)
      clear hK Kq
      try simp only [Act.put, List.setIfInBounds_toArray, List.set_cons_zero, List.set_cons_succ]
      refine st_one (i := 11) rfl (by kernel_rfl) (by rfl) (fun Kq hK => ?_)
      refine wp_row1 _ _ elemBools rfl rfl rfl (row_below HR.out.row HB4.out) rfl HAt4.out rfl (by rw [HBl.out]; omega) (by rw [HBl.out]; omega) (by have := HKo.out.size; have := HB4.out.size; omega) ?_
      intro v' w5 hO5 hg5 hat5
      have HPu : Hid (RowK w5 w.heap.size N v' (bs ++ [wo.heap.size]) ((List.range k).map (diagB N) ++ [List.replicate N false])) := Lib.hid (HR.out.push HB4.out HR4.out (by simp) (Nat.le_refl _) HKo.out.size hO5 hg5 hat5)
      obtain ⟨Av, cv, ev⟩ := row_form hO5
      rw [HBl.out] at ev
      subst ev
      have HR5 := HPu
      have hKg : Kept (fun g => v.ownBlock = some g) w4 w5 := Kept.of_grown (X := fun g => v.ownBlock = some g) hg5 (fun g hk => hk)
      have hK45 : Kept (fun b => b = P) w w5 := (HKo.out.below HB4.out).later hKg (fun b hb => .inr (HR.out.row.lt b hb).1)
      have HK5 := Lib.hid hK45
      have hnP : ¬ v.ownBlock = some P := fun h => by have := (HR.out.row.lt P h).1; have := HPz.out; omega
      have HP5 := Lib.hid ((HPo.out.below HB4.out HPo.out.lt).kept hKg hnP)
      have p9c : w5.cell? ⟨P, 9, none⟩ = some v := HP5.out.cell 9
      have fp9 := HP5.out.frozen 9
      have p6c : w5.cell? ⟨P, 6, none⟩ = some (.int .i64 (N : Int)) := HP5.out.cell 6
      have zP5 : P < w5.heap.size := HP5.out.lt
      clear hO5 hg5 hat5 hKg hK45 hnP
      refine hK.out _ _ ?ha11 (fun hHeld => ?ra11)
      case ha11 => ((try dsimp only); go_keep)
      clear hK Kq
      try simp only [Act.put, List.setIfInBounds_toArray, List.set_cons_zero, List.set_cons_succ]
      refine st_pure (i := 12) (v := ?va12) rfl (by kernel_rfl) (by kernel_rfl) (by kernel_rfl) (by kernel_rfl) (fun _ _ _ h => h) (by rfl) ?ya12 (.inl (by assumption)) ?ra12
      case ya12 => (intro w; go_simp; try with_reducible rfl)
      try simp only [Act.put, List.setIfInBounds_toArray, List.set_cons_zero, List.set_cons_succ]
      refine st_pure (i := 13) (v := ?va13) rfl (by kernel_rfl) (by kernel_rfl) (by kernel_rfl) (by kernel_rfl) (fun _ _ _ h => h) (by rfl) ?ya13 (.inl (by assumption)) ?ra13
      case ya13 => (intro w; go_simp; try with_reducible rfl)
      try simp only [Act.put, List.setIfInBounds_toArray, List.set_cons_zero, List.set_cons_succ]
      refine st_late (i := 14) rfl (by kernel_rfl) (by rfl) (by kernel_rfl) (fun Kq hK => ?_)
      go_simp
      refine hK.out _ _ ?_
      clear hK Kq
      try simp only [Act.put, List.setIfInBounds_toArray, List.set_cons_zero, List.set_cons_succ]
      refine wpAnyD_done (by kernel_rfl) ?_ _
      refine NoPanic.normal ?_
      clear p6 p9 p9a p6a p9b p6b p9c p6c zP
      have hKr := (((Kept.refl (fun b => b = P) w5).setCell (p := ⟨P, 9, none⟩) (.inl rfl) (.slice Av (k + 1) cv)))
      have HR6 := Lib.hid (HR5.out.kept hKr (fun b hb => by have := HPz.out; omega))
      have HP6 : Hid (Blk' (w5.setCell ⟨P, 9, none⟩ (.slice Av (k + 1) cv)) P 111 #[v0, v1, v2, v3, v4, v5, .int .i64 (N : Int), .slice AP ps.length cp, .slice (some ⟨NB, 0, none⟩) N N, (.slice Av (k + 1) cv), v10]) := Lib.hid (HP5.out.set_ 9 _)
      have hK6 : Kept (fun b => b = P) w (w5.setCell ⟨P, 9, none⟩ (.slice Av (k + 1) cv)) := HK5.out.setCell (p := ⟨P, 9, none⟩) (.inl rfl) _
      have HK6 := Lib.hid hK6
      obtain ⟨w6, hw6⟩ : ∃ w6 : World, w6 = w5.setCell ⟨P, 9, none⟩ (.slice Av (k + 1) cv) := ⟨_, rfl⟩
      rw [← hw6] at HR6 HP6 HK6
      have HW6 := Lib.hid hw6
      clear hw6 hKr hK6
      rw [← HW6.out]
      have HBl6 : Hid ((bs ++ [wo.heap.size]).length = k + 1) := Lib.hid (by simp [HBl.out])
      obtain ⟨bf, cf, ev, hRM, hbf⟩ := HR6.out.form (by rw [HBl6.out]; omega)
      rw [HBl6.out] at ev hRM
      injection ev with ev1 _ ev2
      subst ev1; subst ev2
      have hgk : (bs ++ [wo.heap.size])[k]? = some wo.heap.size := by rw [List.getElem?_append_right (by rw [HBl.out]; exact Nat.le_refl _), HBl.out]; simp
      have q9 : w6.cell? ⟨P, 9, none⟩ = some (.slice (some ⟨bf, 0, none⟩) (k + 1) cv) := HP6.out.cell 9
      have o0 : w6.cell? ⟨bf, k, none⟩ = some (.slice (some ⟨wo.heap.size, 0, none⟩) N N) := hRM.outer k _ hgk
      have hfk : (((List.range k).map (diagB N)) ++ [List.replicate N false])[k]? = some (List.replicate N false) := by rw [List.getElem?_append_right (by simp), List.length_map, List.length_range]; simp
      have hBk := (HR6.out.rows k _ _ hgk hfk).1
      have y0 : w6.cell? ⟨wo.heap.size, k, none⟩ = some (.bool false) := (hBk.cell _).trans (bcells_get (by simp [hkn]))
      have fy := hBk.frozen k
      have zR := hBk.lt
      have zF := hRM.bflt
      have hKs := (Kept.refl (fun b => b = wo.heap.size) w6).setCell (p := ⟨wo.heap.size, k, none⟩) (.inl rfl) (.bool true)
      have HRs : Hid (RowK (w6.setCell ⟨wo.heap.size, k, none⟩ (.bool true)) w.heap.size N (.slice (some ⟨bf, 0, none⟩) (k + 1) cv) (bs ++ [wo.heap.size]) ((List.range (k + 1)).map (diagB N))) := Lib.hid (by
        have h := HR6.out.setRow (row' := diagB N k) hgk hKs (by unfold diagB; rw [← bcells_set]; exact hBk.set_ k _) (diagB_len _ _)
        rw [List.set_append_right _ _ (by simp)] at h
        simpa [List.range_succ] using h)
      have HPs := Lib.hid (HP6.out.kept hKs (by have := HPz.out; have := HKo.out.size; omega))
      have HKs := Lib.hid (HK6.out.setCell (p := ⟨wo.heap.size, k, none⟩) (.inr (by have := HKo.out.size; dsimp only; omega)) (.bool true))
      have hk1 : (k : Int) < ((k + 1 : Nat) : Int) := by omega
      clear hRM hbf hgk hfk hBk hKs
      go_wp2_with fail
      go_roundw
      case rel => exact ⟨k + 1, _, bs ++ [wo.heap.size], hkn, by go_num, HBl6.out, HPs.out, HRs.out, HKs.out⟩
      case measure => simp [intOf]; omega
    · have hkk : k = N := by omega
      subst hkk
      obtain ⟨bf, cf, rfl, hRM, hbf⟩ := HR.out.form (by rw [HBl.out]; exact hN1)
      rw [HBl.out] at hRM HPo
      have HBs : Hid (∀ b ∈ bf :: bs, w.heap.size ≤ b) := Lib.hid (fun b hb => by
        rcases List.mem_cons.1 hb with rfl | hb
        · exact hbf
        · exact (HR.out.far b hb).1)
      have HS0 : Hid (ClS P k bf cf bs (fun v => #[v0, v1, v2, v3, v4, v5, .int .i64 (k : Int), .slice AP ps.length cp, .slice (some ⟨NB, 0, none⟩) k k, v, v10]) w wo ((List.range k).map (diagB k))) := Lib.hid ⟨HPo.out, hRM, HKo.out⟩
      have HL0 : Hid (LdS k ps (NulP ps) 0 0 ((List.range k).map (diagB k))) := Lib.hid (LdS.start (WarS.ofRows hRM) (fun a b => diag_gt k a b))
      clear hRM hbf HR HPo HKo HBl
      have p7 : wo.cell? ⟨P, 7, none⟩ = some (.slice AP ps.length cp) := HS0.out.ptr.cell 7
      have zP : P < wo.heap.size := HS0.out.ptr.lt
      clear hkn hk
      go_wp2_with fail
      clear p7 zP
      go_loopw [46] (fun i wr => ∃ (j : Nat) (f : List (List Bool)), j ≤ ps.length ∧ i = .int .i64 j ∧ ClS P k bf cf bs (fun v => #[v0, v1, v2, v3, v4, v5, .int .i64 (k : Int), .slice AP ps.length cp, .slice (some ⟨NB, 0, none⟩) k k, v, v10]) w wr f ∧ LdS k ps (NulP ps) j 0 f) (fun i _ => ps.length - (intOf i).toNat)
      case atStart => exact ⟨0, _, Nat.zero_le _, rfl, HS0.out, HL0.out⟩
      case round =>
        obtain ⟨wi, hwi⟩ : ∃ wi : World, wi = wr := ⟨_, rfl⟩
        subst hwi
        obtain ⟨j, f0, hj, rfl, hS, hL⟩ := hrel
        have HS := Lib.hid hS
        have HL := Lib.hid hL
        clear hS hL HS0 HL0
        by_cases hjn : j < ps.length
        · obtain ⟨p, hp⟩ := get_some hjn
          have hEw := HE.out.kept HS.out.kept (fun b hb e => (HSP.out b hb).1 e)
          obtain ⟨bp, op, Ar, cr, rfl, hSb, hbl, hi1, hi2, hrl, hcr, hEr, c0, c1, c2, c3⟩ := hEw.part hp
          have HPart := Lib.hid hp
          have hpo := HOK.out p (List.mem_of_getElem? hp)
          obtain ⟨pl, pr, prt, pwh⟩ := p
          dsimp only at *
          obtain ⟨a0, rfl⟩ : ∃ a : Nat, pl = (a : Int) := ⟨pl.toNat, by have := hpo.1; dsimp only at this; omega⟩
          have ha0 : a0 < k := by have := hpo.1; dsimp only at this; omega
          have hp2 : prt.length ≤ 2 := hpo.2.1
          have HIn : Hid (∀ m ∈ prt, 0 ≤ m ∧ m < (k : Int)) := Lib.hid hpo.2.2
          have hj0 : (0 : Int) ≤ (j : Int) := by omega
          have hj9 : (j : Int) < (ps.length : Int) := by omega
          obtain ⟨w2, hw2⟩ : ∃ w2 : World, w2 = wi.alloc (.cells #[.int .i64 (a0 : Int), .int .i64 pr, .slice Ar prt.length cr, .bool pwh] 169) := ⟨_, rfl⟩
          have HW2 := Lib.hid hw2
          have hb2 : Below wi.heap.size wi w2 := by rw [hw2]; exact (Below.refl _ _).alloc (Nat.le_refl _) _
          have HX2 : Hid (Blk' w2 wi.heap.size 169 #[.int .i64 (a0 : Int), .int .i64 pr, .slice Ar prt.length cr, .bool pwh]) := Lib.hid (by rw [hw2]; exact Blk'.new _ _ _)
          have HS2 := Lib.hid (HS.out.below hb2)
          have HE2 := Lib.hid (hEr.below hb2)
          have HBw : Hid (∀ b ∈ bs, b < wi.heap.size) := Lib.hid (fun b hb => HS.out.rows.lt b (List.mem_cons_of_mem _ hb))
          clear hp hpo hw2 hb2 hEr hEw hi1 hi2
          go_upto_region 9 with (fail)
          rw [← HW2.out]
          have x2 : w2.cell? ⟨wi.heap.size, 2, none⟩ = some (.slice Ar prt.length cr) := HX2.out.cell 2
          have zX : wi.heap.size < w2.heap.size := HX2.out.lt
          clear c0 c1 c2 c3 hbl hSb HW2 hj0 hj9
          go_wp2_with fail
          clear x2 zX
          go_loopw [53] (fun i wr => ∃ (t : Nat) (f : List (List Bool)), t ≤ prt.length ∧ i = .int .i64 t ∧ ClS P k bf cf bs (fun v => #[v0, v1, v2, v3, v4, v5, .int .i64 (k : Int), .slice (some ⟨bp, op, none⟩) ps.length cp, .slice (some ⟨NB, 0, none⟩) k k, v, v10]) w wr f ∧ LdS k ps (NulP ps) j t f ∧ Kept (fun b => b ∈ bs) w2 wr) (fun i _ => prt.length - (intOf i).toNat)
          case atStart => exact ⟨0, _, Nat.zero_le _, rfl, HS2.out, HL.out, Kept.refl _ _⟩
          case round =>
            obtain ⟨t, f, ht, rfl, hS, hL, hKi⟩ := hrel
            have HSi := Lib.hid hS
            have HLi := Lib.hid hL
            have HKi := Lib.hid hKi
            clear hS hL hKi
            have HXi := Lib.hid (HX2.out.kept HKi.out (fun h => by have := HBw.out _ h; omega))
            by_cases htn : t < prt.length
            · obtain ⟨m0, hm⟩ := get_some htn
              have hEm := HE2.out.kept HKi.out (fun b hb h => by have := (HSP.out b hb).2; have := HBs.out b (List.mem_cons_of_mem _ h); omega)
              obtain ⟨bm, om, rfl, hSm, hbm, hmi, cm⟩ := hEm.int hm
              have hm2 := HIn.out m0 (List.mem_of_getElem? hm)
              obtain ⟨b0, rfl⟩ : ∃ b : Nat, m0 = (b : Int) := ⟨m0.toNat, by omega⟩
              have hb0 : b0 < k := by omega
              have HM := Lib.hid hm
              have HEm := Lib.hid hEm
              have ht0 : (0 : Int) ≤ (t : Int) := by omega
              have ht9 : (t : Int) < (prt.length : Int) := by omega
              have x2 : wr.cell? ⟨wi.heap.size, 2, none⟩ = some (.slice (some ⟨bm, om, none⟩) prt.length cr) := HXi.out.cell 2
              have zX : wi.heap.size < wr.heap.size := HXi.out.lt
              clear hm hm2 hmi hSm hEm
              by_cases hp1 : prt.length = 1
              · have e1 : ((prt.length : Int) == 1) = true := by simp; omega
                have HP1 := Lib.hid hp1
                clear hp1
                go_upto_region 12 with (fail)
                go_quiet (fail)
                obtain ⟨wq, hwq⟩ : ∃ wq : World, wq = wr.drewN nq := ⟨_, rfl⟩
                have hbq : Below wr.heap.size wr wq := by rw [hwq]; exact bdrewN (Below.refl _ _)
                have hSq : ClS P k bf cf bs _ w wq f := HSi.out.below hbq
                have hXq : Blk' wq wi.heap.size 169 #[.int .i64 (a0 : Int), .int .i64 pr, .slice (some ⟨bm, om, none⟩) prt.length cr, .bool pwh] := HXi.out.below hbq HXi.out.lt
                have hKq : Kept (fun b => b ∈ bs) w2 wq := HKi.out.below hbq
                rw [← hwq]
                clear hwq hbq
                have hab : a0 < bs.length := by rw [hSq.rows.blen]; exact ha0
                obtain ⟨ba, hba⟩ := get_some hab
                obtain ⟨row, hrow, hrd, hrl⟩ := (WarS.ofRows hSq.rows).get ha0
                have hBa := (hSq.rows.rows a0 ba row hba hrow).1
                obtain ⟨yv, hyv⟩ := get_some (show b0 < row.length by omega)
                have d9 : wq.cell? ⟨P, 9, none⟩ = some (.slice (some ⟨bf, 0, none⟩) k cf) := hSq.ptr.cell 9
                have d0 : wq.cell? ⟨wi.heap.size, 0, none⟩ = some (.int .i64 (a0 : Int)) := hXq.cell 0
                have o0 : wq.cell? ⟨bf, a0, none⟩ = some (.slice (some ⟨ba, 0, none⟩) k k) := hSq.rows.outer a0 ba hba
                have y0 : wq.cell? ⟨ba, b0, none⟩ = some (.bool yv) := (hBa.cell _).trans (bcells_get hyv)
                have fy := hBa.frozen b0
                have zba := hBa.lt
                have hba1 := List.mem_of_getElem? hba
                have HSn := Lib.hid (hSq.setRow (j := b0) HPz.out.1 (fun b hb => HBs.out b (List.mem_cons_of_mem _ hb)) hba hrow true)
                have HKn : Hid (Kept (fun b => b ∈ bs) w2 (wq.setCell ⟨ba, b0, none⟩ (.bool true)).drew) := Lib.hid (hKq.setCell (p := ⟨ba, b0, none⟩) (.inl hba1) _).drew
                have HLn := Lib.hid (HLi.out.set HPart.out rfl (⟨HM.out, .inl HP1.out⟩) ha0 hb0)
                clear hSq hXq hKq hba hrow hrd hrl hBa hyv hba1
                go_wp2_with fail
                refine wp_region_noPanic ?_
                refine stage_start (S := (fun w' => w'.cell? ⟨P, 9, none⟩ = some (.slice (some ⟨bf, 0, none⟩) k cf) ∧ w'.cell? ⟨wi.heap.size, 0, none⟩ = some (.int .i64 (a0 : Int)) ∧ w'.cell? ⟨bf, a0, none⟩ = some (.slice (some ⟨ba, 0, none⟩) k k))) 10 (by kernel_rfl) ?hb (fun hHeld => ?bb)
                case hb => ((try dsimp only); go_keep)
                refine st_pure (i := 0) (v := ?vb0) rfl (by kernel_rfl) (by kernel_rfl) (by kernel_rfl) (by kernel_rfl) (fun _ _ _ h => h) (by rfl) ?yb0 (.inl (by assumption)) ?rb0
                case yb0 => (intro w; go_simp; try with_reducible rfl)
                try simp only [Act.put, List.setIfInBounds_toArray, List.set_cons_zero, List.set_cons_succ]
                refine st_pure (i := 1) (v := ?vb1) rfl (by kernel_rfl) (by kernel_rfl) (by kernel_rfl) (by kernel_rfl) (fun _ _ _ h => h) (by rfl) ?yb1 (.inl (by assumption)) ?rb1
                case yb1 => (intro w; go_simp; try with_reducible rfl)
                try simp only [Act.put, List.setIfInBounds_toArray, List.set_cons_zero, List.set_cons_succ]
                refine st_pure (i := 2) (v := ?vb2) rfl (by kernel_rfl) (by kernel_rfl) (by kernel_rfl) (by kernel_rfl) (fun _ _ _ h => h) (by rfl) ?yb2 (.inl (by assumption)) ?rb2
                case yb2 => (intro w; go_simp; try with_reducible rfl)
                try simp only [Act.put, List.setIfInBounds_toArray, List.set_cons_zero, List.set_cons_succ]
                refine st_run (i := 3) (v := ?vb3) rfl (by kernel_rfl) (by kernel_rfl) (by kernel_rfl) (by kernel_rfl) (fun _ _ _ h => h) (by rfl) ?yb3 (by assumption) ?rb3
                case yb3 => (intro w hSw; (try dsimp only at hSw); go_simp; try with_reducible rfl)
                try simp only [Act.put, List.setIfInBounds_toArray, List.set_cons_zero, List.set_cons_succ]
                refine st_pure (i := 4) (v := ?vb4) rfl (by kernel_rfl) (by kernel_rfl) (by kernel_rfl) (by kernel_rfl) (fun _ _ _ h => h) (by rfl) ?yb4 (.inl (by assumption)) ?rb4
                case yb4 => (intro w; go_simp; try with_reducible rfl)
                try simp only [Act.put, List.setIfInBounds_toArray, List.set_cons_zero, List.set_cons_succ]
                refine st_run (i := 5) (v := ?vb5) rfl (by kernel_rfl) (by kernel_rfl) (by kernel_rfl) (by kernel_rfl) (fun _ _ _ h => h) (by rfl) ?yb5 (by assumption) ?rb5
                case yb5 => (intro w hSw; (try dsimp only at hSw); go_simp; try with_reducible rfl)
                try simp only [Act.put, List.setIfInBounds_toArray, List.set_cons_zero, List.set_cons_succ]
                refine st_pure (i := 6) (v := ?vb6) rfl (by kernel_rfl) (by kernel_rfl) (by kernel_rfl) (by kernel_rfl) (fun _ _ _ h => h) (by rfl) ?yb6 (.inl (by assumption)) ?rb6
                case yb6 => (intro w; go_simp; try with_reducible rfl)
                try simp only [Act.put, List.setIfInBounds_toArray, List.set_cons_zero, List.set_cons_succ]
                refine st_run (i := 7) (v := ?vb7) rfl (by kernel_rfl) (by kernel_rfl) (by kernel_rfl) (by kernel_rfl) (fun _ _ _ h => h) (by rfl) ?yb7 (by assumption) ?rb7
                case yb7 => (intro w hSw; (try dsimp only at hSw); go_simp; try with_reducible rfl)
                try simp only [Act.put, List.setIfInBounds_toArray, List.set_cons_zero, List.set_cons_succ]
                refine st_pure (i := 8) (v := ?vb8) rfl (by kernel_rfl) (by kernel_rfl) (by kernel_rfl) (by kernel_rfl) (fun _ _ _ h => h) (by rfl) ?yb8 (.inl (by assumption)) ?rb8
                case yb8 => (intro w; go_simp; try with_reducible rfl)
                try simp only [Act.put, List.setIfInBounds_toArray, List.set_cons_zero, List.set_cons_succ]
                refine st_pure (i := 9) (v := ?vb9) rfl (by kernel_rfl) (by kernel_rfl) (by kernel_rfl) (by kernel_rfl) (fun _ _ _ h => h) (by rfl) ?yb9 (.inl (by assumption)) ?rb9
                case yb9 => (intro w; go_simp; try with_reducible rfl)
                try simp only [Act.put, List.setIfInBounds_toArray, List.set_cons_zero, List.set_cons_succ]
                refine st_late (i := 10) rfl (by kernel_rfl) (by rfl) (by kernel_rfl) (fun Kq hK => ?_)
                go_simp
                refine hK.out _ _ ?_
                clear hK Kq
                try simp only [Act.put, List.setIfInBounds_toArray, List.set_cons_zero, List.set_cons_succ]
                refine wpAnyD_done (by kernel_rfl) ?_ _
                refine NoPanic.normal ?_
                go_wp2_with fail
                go_roundw
                case rel => exact ⟨t + 1, _, htn, by go_num, HSn.out, HLn.out, HKn.out⟩
                case measure => simp [intOf]; omega
              · obtain ⟨c0, hc0⟩ := get_some (show 1 - t < prt.length by omega)
                have hc2 := HIn.out c0 (List.mem_of_getElem? hc0)
                obtain ⟨bm', om', eAr, hSm, hbm', hci, cc⟩ := HEm.out.int hc0
                injection eAr with eAr
                injection eAr with e1 e2 _
                subst e1; subst e2
                have hnl := HNU.out.1
                obtain ⟨cn, rfl⟩ : ∃ b : Nat, c0 = (b : Int) := ⟨c0.toNat, by omega⟩
                obtain ⟨x, hx⟩ := get_some (show cn < nb.length by omega)
                have hnx := HNU.out.2 (cn : Int) (by omega)
                rw [show nbAt nb (cn : Int) = x from (by unfold nbAt; rw [List.getD_eq_getElem?_getD, Int.toNat_natCast, hx]; rfl)] at hnx
                have HNx := Lib.hid hnx
                have HC := Lib.hid hc0
                have hNBi := HNB.out.kept HSi.out.kept HNP.out
                have n0 : wr.cell? ⟨NB, cn, none⟩ = some (.bool x) := (hNBi.cell _).trans (bcells_get hx)
                have zN := hNBi.lt
                have p8 : wr.cell? ⟨P, 8, none⟩ = some (.slice (some ⟨NB, 0, none⟩) k k) := HSi.out.ptr.cell 8
                have zP : P < wr.heap.size := HSi.out.ptr.lt
                have e1 : ((prt.length : Int) == 1) = false := by simp; omega
                have hwr : IntKind.i64.wrap (1 - (t : Int)) = ((1 - t : Nat) : Int) := by rw [IntWalk.i64_in _ (by omega)]; omega
                have hu0 : (0 : Int) ≤ ((1 - t : Nat) : Int) := by omega
                have hu9 : ((1 - t : Nat) : Int) < (prt.length : Int) := by omega
                have hcn : cn < k := by omega
                have hcn9 : (cn : Int) < (k : Int) := by omega
                have hcn0 : (0 : Int) ≤ (cn : Int) := by omega
                clear hc0 hc2 hci hSm hnl hx hnx hNBi
                cases x
                · go_upto_region 12 with (fail)
                  go_quiet (fail)
                  go_wp2_with fail
                  have HLs : Hid (LdS k ps (NulP ps) j (t + 1) f) := Lib.hid (HLi.out.skip HPart.out (fun b hb => by
                    rcases hb.2 with h | ⟨c, h1, h2⟩
                    · exact hp1 h
                    · rw [HC.out] at h1
                      injection h1 with h1
                      subst h1
                      have := HNx.out.2 h2
                      cases this))
                  go_roundw
                  case rel => exact ⟨t + 1, f, htn, by go_num, HSi.out.below (bdrewN (Below.refl _ _)), HLs.out, HKi.out.below (bdrewN (Below.refl _ _))⟩
                  case measure => simp [intOf]; omega
                · go_upto_region 12 with (fail)
                  go_quiet (fail)
                  obtain ⟨wq, hwq⟩ : ∃ wq : World, wq = wr.drewN nq := ⟨_, rfl⟩
                  have hbq : Below wr.heap.size wr wq := by rw [hwq]; exact bdrewN (Below.refl _ _)
                  have hSq : ClS P k bf cf bs _ w wq f := HSi.out.below hbq
                  have hXq : Blk' wq wi.heap.size 169 #[.int .i64 (a0 : Int), .int .i64 pr, .slice (some ⟨bm, om, none⟩) prt.length cr, .bool pwh] := HXi.out.below hbq HXi.out.lt
                  have hKq : Kept (fun b => b ∈ bs) w2 wq := HKi.out.below hbq
                  rw [← hwq]
                  clear hwq hbq
                  have hab : a0 < bs.length := by rw [hSq.rows.blen]; exact ha0
                  obtain ⟨ba, hba⟩ := get_some hab
                  obtain ⟨row, hrow, hrd, hrl⟩ := (WarS.ofRows hSq.rows).get ha0
                  have hBa := (hSq.rows.rows a0 ba row hba hrow).1
                  obtain ⟨yv, hyv⟩ := get_some (show b0 < row.length by omega)
                  have d9 : wq.cell? ⟨P, 9, none⟩ = some (.slice (some ⟨bf, 0, none⟩) k cf) := hSq.ptr.cell 9
                  have d0 : wq.cell? ⟨wi.heap.size, 0, none⟩ = some (.int .i64 (a0 : Int)) := hXq.cell 0
                  have o0 : wq.cell? ⟨bf, a0, none⟩ = some (.slice (some ⟨ba, 0, none⟩) k k) := hSq.rows.outer a0 ba hba
                  have y0 : wq.cell? ⟨ba, b0, none⟩ = some (.bool yv) := (hBa.cell _).trans (bcells_get hyv)
                  have fy := hBa.frozen b0
                  have zba := hBa.lt
                  have hba1 := List.mem_of_getElem? hba
                  have HSn := Lib.hid (hSq.setRow (j := b0) HPz.out.1 (fun b hb => HBs.out b (List.mem_cons_of_mem _ hb)) hba hrow true)
                  have HKn : Hid (Kept (fun b => b ∈ bs) w2 (wq.setCell ⟨ba, b0, none⟩ (.bool true)).drew) := Lib.hid (hKq.setCell (p := ⟨ba, b0, none⟩) (.inl hba1) _).drew
                  have HLn := Lib.hid (HLi.out.set HPart.out rfl (⟨HM.out, .inr ⟨_, HC.out, HNx.out.1 rfl⟩⟩) ha0 hb0)
                  clear hSq hXq hKq hba hrow hrd hrl hBa hyv hba1
                  go_wp2_with fail
                  refine wp_region_noPanic ?_
                  refine stage_start (S := (fun w' => w'.cell? ⟨P, 9, none⟩ = some (.slice (some ⟨bf, 0, none⟩) k cf) ∧ w'.cell? ⟨wi.heap.size, 0, none⟩ = some (.int .i64 (a0 : Int)) ∧ w'.cell? ⟨bf, a0, none⟩ = some (.slice (some ⟨ba, 0, none⟩) k k))) 10 (by kernel_rfl) ?hc (fun hHeld => ?bc)
                  case hc => ((try dsimp only); go_keep)
                  refine st_pure (i := 0) (v := ?vc0) rfl (by kernel_rfl) (by kernel_rfl) (by kernel_rfl) (by kernel_rfl) (fun _ _ _ h => h) (by rfl) ?yc0 (.inl (by assumption)) ?rc0
                  case yc0 => (intro w; go_simp; try with_reducible rfl)
                  try simp only [Act.put, List.setIfInBounds_toArray, List.set_cons_zero, List.set_cons_succ]
                  refine st_pure (i := 1) (v := ?vc1) rfl (by kernel_rfl) (by kernel_rfl) (by kernel_rfl) (by kernel_rfl) (fun _ _ _ h => h) (by rfl) ?yc1 (.inl (by assumption)) ?rc1
                  case yc1 => (intro w; go_simp; try with_reducible rfl)
                  try simp only [Act.put, List.setIfInBounds_toArray, List.set_cons_zero, List.set_cons_succ]
                  refine st_pure (i := 2) (v := ?vc2) rfl (by kernel_rfl) (by kernel_rfl) (by kernel_rfl) (by kernel_rfl) (fun _ _ _ h => h) (by rfl) ?yc2 (.inl (by assumption)) ?rc2
                  case yc2 => (intro w; go_simp; try with_reducible rfl)
                  try simp only [Act.put, List.setIfInBounds_toArray, List.set_cons_zero, List.set_cons_succ]
                  refine st_run (i := 3) (v := ?vc3) rfl (by kernel_rfl) (by kernel_rfl) (by kernel_rfl) (by kernel_rfl) (fun _ _ _ h => h) (by rfl) ?yc3 (by assumption) ?rc3
                  case yc3 => (intro w hSw; (try dsimp only at hSw); go_simp; try with_reducible rfl)
                  try simp only [Act.put, List.setIfInBounds_toArray, List.set_cons_zero, List.set_cons_succ]
                  refine st_pure (i := 4) (v := ?vc4) rfl (by kernel_rfl) (by kernel_rfl) (by kernel_rfl) (by kernel_rfl) (fun _ _ _ h => h) (by rfl) ?yc4 (.inl (by assumption)) ?rc4
                  case yc4 => (intro w; go_simp; try with_reducible rfl)
                  try simp only [Act.put, List.setIfInBounds_toArray, List.set_cons_zero, List.set_cons_succ]
                  refine st_run (i := 5) (v := ?vc5) rfl (by kernel_rfl) (by kernel_rfl) (by kernel_rfl) (by kernel_rfl) (fun _ _ _ h => h) (by rfl) ?yc5 (by assumption) ?rc5
                  case yc5 => (intro w hSw; (try dsimp only at hSw); go_simp; try with_reducible rfl)
                  try simp only [Act.put, List.setIfInBounds_toArray, List.set_cons_zero, List.set_cons_succ]
                  refine st_pure (i := 6) (v := ?vc6) rfl (by kernel_rfl) (by kernel_rfl) (by kernel_rfl) (by kernel_rfl) (fun _ _ _ h => h) (by rfl) ?yc6 (.inl (by assumption)) ?rc6
                  case yc6 => (intro w; go_simp; try with_reducible rfl)
                  try simp only [Act.put, List.setIfInBounds_toArray, List.set_cons_zero, List.set_cons_succ]
                  refine st_run (i := 7) (v := ?vc7) rfl (by kernel_rfl) (by kernel_rfl) (by kernel_rfl) (by kernel_rfl) (fun _ _ _ h => h) (by rfl) ?yc7 (by assumption) ?rc7
                  case yc7 => (intro w hSw; (try dsimp only at hSw); go_simp; try with_reducible rfl)
                  try simp only [Act.put, List.setIfInBounds_toArray, List.set_cons_zero, List.set_cons_succ]
                  refine st_pure (i := 8) (v := ?vc8) rfl (by kernel_rfl) (by kernel_rfl) (by kernel_rfl) (by kernel_rfl) (fun _ _ _ h => h) (by rfl) ?yc8 (.inl (by assumption)) ?rc8
                  case yc8 => (intro w; go_simp; try with_reducible rfl)
                  try simp only [Act.put, List.setIfInBounds_toArray, List.set_cons_zero, List.set_cons_succ]
                  refine st_pure (i := 9) (v := ?vc9) rfl (by kernel_rfl) (by kernel_rfl) (by kernel_rfl) (by kernel_rfl) (fun _ _ _ h => h) (by rfl) ?yc9 (.inl (by assumption)) ?rc9
                  case yc9 => (intro w; go_simp; try with_reducible rfl)
                  try simp only [Act.put, List.setIfInBounds_toArray, List.set_cons_zero, List.set_cons_succ]
                  refine st_late (i := 10) rfl (by kernel_rfl) (by rfl) (by kernel_rfl) (fun Kq hK => ?_)
                  go_simp
                  refine hK.out _ _ ?_
                  clear hK Kq
                  try simp only [Act.put, List.setIfInBounds_toArray, List.set_cons_zero, List.set_cons_succ]
                  refine wpAnyD_done (by kernel_rfl) ?_ _
                  refine NoPanic.normal ?_
                  go_wp2_with fail
                  go_roundw
                  case rel => exact ⟨t + 1, _, htn, by go_num, HSn.out, HLn.out, HKn.out⟩
                  case measure => simp [intOf]; omega
            · have htt : t = prt.length := by omega
              have HLn : Hid (LdS k ps (NulP ps) (j + 1) 0 f) := Lib.hid (by have h := HLi.out; rw [htt] at h; exact h.next HPart.out)
              go_wp2_with fail
              go_roundw
              case rel => exact ⟨j + 1, f, hjn, by go_num, HSi.out, HLn.out⟩
              case measure => simp [intOf]; omega
        · have hjj : j = ps.length := by omega
          have HC0 : Hid (CloS (LeadR k ps (NulP ps)) k 0 0 0 f0) := Lib.hid (by have h := HL.out; rw [hjj] at h; exact h.done)
          have HRin : Hid (∀ a b, LeadR k ps (NulP ps) a b → a < k ∧ b < k) := Lib.hid (leadR_in HOK.out)
          obtain ⟨E, hE⟩ : ∃ E, E = LeadR k ps (NulP ps) := ⟨_, rfl⟩
          have HEq := Lib.hid hE
          rw [← hE] at HC0 HRin
          have p6 : wi.cell? ⟨P, 6, none⟩ = some (.int .i64 (k : Int)) := HS.out.ptr.cell 6
          have zP : P < wi.heap.size := HS.out.ptr.lt
          clear HL hE hjj
          go_wp2_with fail
          clear p6 zP
          go_loopw [92] (fun i wr => ∃ (q : Nat) (f : List (List Bool)), q ≤ k ∧ i = .int .i64 q ∧ ClS P k bf cf bs (fun v => #[v0, v1, v2, v3, v4, v5, .int .i64 (k : Int), .slice AP ps.length cp, .slice (some ⟨NB, 0, none⟩) k k, v, v10]) w wr f ∧ CloS E k q 0 0 f) (fun i _ => k - (intOf i).toNat)
          case atStart => exact ⟨0, _, Nat.zero_le _, rfl, HS.out, HC0.out⟩
          case round =>
            obtain ⟨wa, hwa⟩ : ∃ wa : World, wa = wr := ⟨_, rfl⟩
            subst hwa
            obtain ⟨q, f1, hq, rfl, hS, hC⟩ := hrel
            have HSa := Lib.hid hS
            have HCa := Lib.hid hC
            clear hS hC HS HC0
            by_cases hqn : q < k
            · have p6 : wa.cell? ⟨P, 6, none⟩ = some (.int .i64 (k : Int)) := HSa.out.ptr.cell 6
              have zP : P < wa.heap.size := HSa.out.ptr.lt
              have hq9 : (q : Int) < (k : Int) := by omega
              go_wp2_with fail
              clear p6 zP
              go_loopw [99] (fun i wr => ∃ (r : Nat) (f : List (List Bool)), r ≤ k ∧ i = .int .i64 r ∧ ClS P k bf cf bs (fun v => #[v0, v1, v2, v3, v4, v5, .int .i64 (k : Int), .slice AP ps.length cp, .slice (some ⟨NB, 0, none⟩) k k, v, v10]) w wr f ∧ CloS E k q r 0 f) (fun i _ => k - (intOf i).toNat)
              case atStart => exact ⟨0, _, Nat.zero_le _, rfl, HSa.out, HCa.out⟩
              case round =>
                obtain ⟨wb, hwb⟩ : ∃ wb : World, wb = wr := ⟨_, rfl⟩
                subst hwb
                obtain ⟨r, f2, hr, rfl, hS, hC⟩ := hrel
                have HSb := Lib.hid hS
                have HCb := Lib.hid hC
                clear hS hC
                by_cases hrn : r < k
                · obtain ⟨ri, hri1, hri2, hri3⟩ := HCb.out.shape.get hrn
                  have hrb : r < bs.length := by rw [HSb.out.rows.blen]; exact hrn
                  obtain ⟨bi, hbi⟩ := get_some hrb
                  obtain ⟨y, hy⟩ := get_some (show q < ri.length by omega)
                  have hBi := (HSb.out.rows.rows r bi ri hbi hri1).1
                  have p9 : wb.cell? ⟨P, 9, none⟩ = some (.slice (some ⟨bf, 0, none⟩) k cf) := HSb.out.ptr.cell 9
                  have p6 : wb.cell? ⟨P, 6, none⟩ = some (.int .i64 (k : Int)) := HSb.out.ptr.cell 6
                  have zP : P < wb.heap.size := HSb.out.ptr.lt
                  have c0 : wb.cell? ⟨bf, r, none⟩ = some (.slice (some ⟨bi, 0, none⟩) k k) := HSb.out.rows.outer r bi hbi
                  have cy : wb.cell? ⟨bi, q, none⟩ = some (.bool y) := (hBi.cell _).trans (bcells_get hy)
                  have hr9 : (r : Int) < (k : Int) := by omega
                  have hr0 : (0 : Int) ≤ (r : Int) := by omega
                  have hq0 : (0 : Int) ≤ (q : Int) := by omega
                  have hgy : Gt f2 r q ↔ y = true := by unfold Gt; rw [hri2, hy]; simp
                  have HGy := Lib.hid hgy
                  clear hgy hy hBi hri1 hri2 hri3 hbi hrb
                  cases y
                  · have HCn : Hid (CloS E k q (r + 1) 0 f2) := Lib.hid (HCb.out.pass hqn hrn (fun h => by have := HGy.out.1 h; cases this))
                    go_wp2_with fail
                    go_roundw
                    case rel => exact ⟨r + 1, f2, hrn, by go_num, HSb.out, HCn.out⟩
                    case measure => simp [intOf]; omega
                  · go_wp2_with fail
                    clear p9 p6 zP c0 cy
                    have HG0 : Hid (Gt f2 r q) := Lib.hid (HGy.out.2 (by trivial))
                    go_loopw [117] (fun i wr => ∃ (m : Nat) (f : List (List Bool)), m ≤ k ∧ i = .int .i64 m ∧ ClS P k bf cf bs (fun v => #[v0, v1, v2, v3, v4, v5, .int .i64 (k : Int), .slice AP ps.length cp, .slice (some ⟨NB, 0, none⟩) k k, v, v10]) w wr f ∧ CloS E k q r m f ∧ Gt f r q) (fun i _ => k - (intOf i).toNat)
                    case atStart => exact ⟨0, _, Nat.zero_le _, rfl, HSb.out, HCb.out, HG0.out⟩
                    case round =>
                      obtain ⟨wd, hwd⟩ : ∃ wd : World, wd = wr := ⟨_, rfl⟩
                      subst hwd
                      obtain ⟨m, f3, hm, rfl, hS, hC, hG⟩ := hrel
                      have HSd := Lib.hid hS
                      have HCd := Lib.hid hC
                      have HGd := Lib.hid hG
                      clear hS hC hG HSb HCb HG0
                      by_cases hmn : m < k
                      · have hws := HCd.out.shape
                        obtain ⟨ri, hri1, hri2, hri3⟩ := hws.get hrn
                        obtain ⟨rk, hrk1, hrk2, hrk3⟩ := hws.get hqn
                        have hrb : r < bs.length := by rw [HSd.out.rows.blen]; exact hrn
                        have hqb : q < bs.length := by rw [HSd.out.rows.blen]; exact hqn
                        obtain ⟨bi, hbi⟩ := get_some hrb
                        obtain ⟨bk, hbk⟩ := get_some hqb
                        obtain ⟨x, hx⟩ := get_some (show m < ri.length by omega)
                        obtain ⟨z, hz⟩ := get_some (show m < rk.length by omega)
                        have hBi := (HSd.out.rows.rows r bi ri hbi hri1).1
                        have hBk := (HSd.out.rows.rows q bk rk hbk hrk1).1
                        have p9 : wd.cell? ⟨P, 9, none⟩ = some (.slice (some ⟨bf, 0, none⟩) k cf) := HSd.out.ptr.cell 9
                        have zP : P < wd.heap.size := HSd.out.ptr.lt
                        have c0 : wd.cell? ⟨bf, r, none⟩ = some (.slice (some ⟨bi, 0, none⟩) k k) := HSd.out.rows.outer r bi hbi
                        have c1 : wd.cell? ⟨bf, q, none⟩ = some (.slice (some ⟨bk, 0, none⟩) k k) := HSd.out.rows.outer q bk hbk
                        have cx : wd.cell? ⟨bi, m, none⟩ = some (.bool x) := (hBi.cell _).trans (bcells_get hx)
                        have cz : wd.cell? ⟨bk, m, none⟩ = some (.bool z) := (hBk.cell _).trans (bcells_get hz)
                        have fx := hBi.frozen m
                        have zbi := hBi.lt
                        have hm9 : (m : Int) < (k : Int) := by omega
                        have hm0 : (0 : Int) ≤ (m : Int) := by omega
                        have hr0 : (0 : Int) ≤ (r : Int) := by omega
                        have hr9 : (r : Int) < (k : Int) := by omega
                        have hq0 : (0 : Int) ≤ (q : Int) := by omega
                        have hy : (f3.getD r [])[q]? = some true := HGd.out
                        have hst := HCd.out.step (x := x) (y := true) (z := z) hqn hrn hmn (by rw [hri2]; exact hx) hy (by rw [hrk2]; exact hz)
                        rw [Bool.true_and] at hst
                        have HCn := Lib.hid hst
                        have HSn := Lib.hid (HSd.out.setRow (j := m) HPz.out.1 (fun b hb => HBs.out b (List.mem_cons_of_mem _ hb)) hbi hri1 (x || z))
                        have HGn : Hid (Gt (f3.set r ((f3.getD r []).set m (x || z))) r q) := Lib.hid (by
                          rw [gtSet hws (x || z) hrn hmn]
                          split
                          · rename_i e
                            have e2 := e.2
                            subst e2
                            rw [hri2, hx] at hy
                            injection hy with hy
                            rw [hy]; rfl
                          · exact HGd.out)
                        clear hws hri1 hri2 hri3 hrk1 hrk2 hrk3 hbi hbk hx hz hBi hBk hst hy hrb hqb
                        cases x
                        · simp only [Bool.false_or] at HCn HSn HGn
                          go_wp2_with fail
                          refine wp_region_noPanic ?_
                          refine stage_start (S := (fun w' => w'.cell? ⟨P, 9, none⟩ = some (.slice (some ⟨bf, 0, none⟩) k cf) ∧ w'.cell? ⟨bf, r, none⟩ = some (.slice (some ⟨bi, 0, none⟩) k k) ∧ w'.cell? ⟨bf, q, none⟩ = some (.slice (some ⟨bk, 0, none⟩) k k) ∧ w'.cell? ⟨bi, m, none⟩ = some (.bool false) ∧ w'.cell? ⟨bk, m, none⟩ = some (.bool z))) 31 (by kernel_rfl) ?he (fun hHeld => ?be)
                          case he => ((try dsimp only); go_keep)
                          refine st_pure (i := 0) (v := ?ve0) rfl (by kernel_rfl) (by kernel_rfl) (by kernel_rfl) (by kernel_rfl) (fun _ _ _ h => h) (by rfl) ?ye0 (.inl (by assumption)) ?re0
                          case ye0 => (intro w; go_simp; try with_reducible rfl)
                          try simp only [Act.put, List.setIfInBounds_toArray, List.set_cons_zero, List.set_cons_succ]
                          refine st_pure (i := 1) (v := ?ve1) rfl (by kernel_rfl) (by kernel_rfl) (by kernel_rfl) (by kernel_rfl) (fun _ _ _ h => h) (by rfl) ?ye1 (.inl (by assumption)) ?re1
                          case ye1 => (intro w; go_simp; try with_reducible rfl)
                          try simp only [Act.put, List.setIfInBounds_toArray, List.set_cons_zero, List.set_cons_succ]
                          refine st_pure (i := 2) (v := ?ve2) rfl (by kernel_rfl) (by kernel_rfl) (by kernel_rfl) (by kernel_rfl) (fun _ _ _ h => h) (by rfl) ?ye2 (.inl (by assumption)) ?re2
                          case ye2 => (intro w; go_simp; try with_reducible rfl)
                          try simp only [Act.put, List.setIfInBounds_toArray, List.set_cons_zero, List.set_cons_succ]
                          refine st_run (i := 3) (v := ?ve3) rfl (by kernel_rfl) (by kernel_rfl) (by kernel_rfl) (by kernel_rfl) (fun _ _ _ h => h) (by rfl) ?ye3 (by assumption) ?re3
                          case ye3 => (intro w hSw; (try dsimp only at hSw); go_simp; try with_reducible rfl)
                          try simp only [Act.put, List.setIfInBounds_toArray, List.set_cons_zero, List.set_cons_succ]
                          refine st_pure (i := 4) (v := ?ve4) rfl (by kernel_rfl) (by kernel_rfl) (by kernel_rfl) (by kernel_rfl) (fun _ _ _ h => h) (by rfl) ?ye4 (.inl (by assumption)) ?re4
                          case ye4 => (intro w; go_simp; try with_reducible rfl)
                          try simp only [Act.put, List.setIfInBounds_toArray, List.set_cons_zero, List.set_cons_succ]
                          refine st_pure (i := 5) (v := ?ve5) rfl (by kernel_rfl) (by kernel_rfl) (by kernel_rfl) (by kernel_rfl) (fun _ _ _ h => h) (by rfl) ?ye5 (.inl (by assumption)) ?re5
                          case ye5 => (intro w; go_simp; try with_reducible rfl)
                          try simp only [Act.put, List.setIfInBounds_toArray, List.set_cons_zero, List.set_cons_succ]
                          refine st_run (i := 6) (v := ?ve6) rfl (by kernel_rfl) (by kernel_rfl) (by kernel_rfl) (by kernel_rfl) (fun _ _ _ h => h) (by rfl) ?ye6 (by assumption) ?re6
                          case ye6 => (intro w hSw; (try dsimp only at hSw); go_simp; try with_reducible rfl)
                          try simp only [Act.put, List.setIfInBounds_toArray, List.set_cons_zero, List.set_cons_succ]
                          refine st_pure (i := 7) (v := ?ve7) rfl (by kernel_rfl) (by kernel_rfl) (by kernel_rfl) (by kernel_rfl) (fun _ _ _ h => h) (by rfl) ?ye7 (.inl (by assumption)) ?re7
                          case ye7 => (intro w; go_simp; try with_reducible rfl)
                          try simp only [Act.put, List.setIfInBounds_toArray, List.set_cons_zero, List.set_cons_succ]
                          refine st_pure (i := 8) (v := ?ve8) rfl (by kernel_rfl) (by kernel_rfl) (by kernel_rfl) (by kernel_rfl) (fun _ _ _ h => h) (by rfl) ?ye8 (.inl (by assumption)) ?re8
                          case ye8 => (intro w; go_simp; try with_reducible rfl)
                          try simp only [Act.put, List.setIfInBounds_toArray, List.set_cons_zero, List.set_cons_succ]
                          refine st_pure (i := 9) (v := ?ve9) rfl (by kernel_rfl) (by kernel_rfl) (by kernel_rfl) (by kernel_rfl) (fun _ _ _ h => h) (by rfl) ?ye9 (.inl (by assumption)) ?re9
                          case ye9 => (intro w; go_simp; try with_reducible rfl)
                          try simp only [Act.put, List.setIfInBounds_toArray, List.set_cons_zero, List.set_cons_succ]
                          refine st_pure (i := 10) (v := ?ve10) rfl (by kernel_rfl) (by kernel_rfl) (by kernel_rfl) (by kernel_rfl) (fun _ _ _ h => h) (by rfl) ?ye10 (.inl (by assumption)) ?re10
                          case ye10 => (intro w; go_simp; try with_reducible rfl)
                          try simp only [Act.put, List.setIfInBounds_toArray, List.set_cons_zero, List.set_cons_succ]
                          refine st_run (i := 11) (v := ?ve11) rfl (by kernel_rfl) (by kernel_rfl) (by kernel_rfl) (by kernel_rfl) (fun _ _ _ h => h) (by rfl) ?ye11 (by assumption) ?re11
                          case ye11 => (intro w hSw; (try dsimp only at hSw); go_simp; try with_reducible rfl)
                          try simp only [Act.put, List.setIfInBounds_toArray, List.set_cons_zero, List.set_cons_succ]
                          refine st_pure (i := 12) (v := ?ve12) rfl (by kernel_rfl) (by kernel_rfl) (by kernel_rfl) (by kernel_rfl) (fun _ _ _ h => h) (by rfl) ?ye12 (.inl (by assumption)) ?re12
                          case ye12 => (intro w; go_simp; try with_reducible rfl)
                          try simp only [Act.put, List.setIfInBounds_toArray, List.set_cons_zero, List.set_cons_succ]
                          refine st_pure (i := 13) (v := ?ve13) rfl (by kernel_rfl) (by kernel_rfl) (by kernel_rfl) (by kernel_rfl) (fun _ _ _ h => h) (by rfl) ?ye13 (.inl (by assumption)) ?re13
                          case ye13 => (intro w; go_simp; try with_reducible rfl)
                          try simp only [Act.put, List.setIfInBounds_toArray, List.set_cons_zero, List.set_cons_succ]
                          refine st_run (i := 14) (v := ?ve14) rfl (by kernel_rfl) (by kernel_rfl) (by kernel_rfl) (by kernel_rfl) (fun _ _ _ h => h) (by rfl) ?ye14 (by assumption) ?re14
                          case ye14 => (intro w hSw; (try dsimp only at hSw); go_simp; try with_reducible rfl)
                          try simp only [Act.put, List.setIfInBounds_toArray, List.set_cons_zero, List.set_cons_succ]
                          refine st_pure (i := 15) (v := ?ve15) rfl (by kernel_rfl) (by kernel_rfl) (by kernel_rfl) (by kernel_rfl) (fun _ _ _ h => h) (by rfl) ?ye15 (.inl (by assumption)) ?re15
                          case ye15 => (intro w; go_simp; try with_reducible rfl)
                          try simp only [Act.put, List.setIfInBounds_toArray, List.set_cons_zero, List.set_cons_succ]
                          refine st_pure (i := 16) (v := ?ve16) rfl (by kernel_rfl) (by kernel_rfl) (by kernel_rfl) (by kernel_rfl) (fun _ _ _ h => h) (by rfl) ?ye16 (.inl (by assumption)) ?re16
                          case ye16 => (intro w; go_simp; try with_reducible rfl)
                          try simp only [Act.put, List.setIfInBounds_toArray, List.set_cons_zero, List.set_cons_succ]
                          refine st_run (i := 17) (v := ?ve17) rfl (by kernel_rfl) (by kernel_rfl) (by kernel_rfl) (by kernel_rfl) (fun _ _ _ h => h) (by rfl) ?ye17 (by assumption) ?re17
                          case ye17 => (intro w hSw; (try dsimp only at hSw); go_simp; try with_reducible rfl)
                          try simp only [Act.put, List.setIfInBounds_toArray, List.set_cons_zero, List.set_cons_succ]
                          refine st_pure (i := 18) (v := ?ve18) rfl (by kernel_rfl) (by kernel_rfl) (by kernel_rfl) (by kernel_rfl) (fun _ _ _ h => h) (by rfl) ?ye18 (.inl (by assumption)) ?re18
                          case ye18 => (intro w; go_simp; try with_reducible rfl)
                          try simp only [Act.put, List.setIfInBounds_toArray, List.set_cons_zero, List.set_cons_succ]
                          refine st_pure (i := 19) (v := ?ve19) rfl (by kernel_rfl) (by kernel_rfl) (by kernel_rfl) (by kernel_rfl) (fun _ _ _ h => h) (by rfl) ?ye19 (.inl (by assumption)) ?re19
                          case ye19 => (intro w; go_simp; try with_reducible rfl)
                          try simp only [Act.put, List.setIfInBounds_toArray, List.set_cons_zero, List.set_cons_succ]
                          refine st_pure (i := 20) (v := ?ve20) rfl (by kernel_rfl) (by kernel_rfl) (by kernel_rfl) (by kernel_rfl) (fun _ _ _ h => h) (by rfl) ?ye20 (.inl (by assumption)) ?re20
                          case ye20 => (intro w; go_simp; try with_reducible rfl)
                          try simp only [Act.put, List.setIfInBounds_toArray, List.set_cons_zero, List.set_cons_succ]
                          refine st_pure (i := 21) (v := ?ve21) rfl (by kernel_rfl) (by kernel_rfl) (by kernel_rfl) (by kernel_rfl) (fun _ _ _ h => h) (by rfl) ?ye21 (.inl (by assumption)) ?re21
                          case ye21 => (intro w; go_simp; try with_reducible rfl)
                          try simp only [Act.put, List.setIfInBounds_toArray, List.set_cons_zero, List.set_cons_succ]
                          refine st_run (i := 22) (v := ?ve22) rfl (by kernel_rfl) (by kernel_rfl) (by kernel_rfl) (by kernel_rfl) (fun _ _ _ h => h) (by rfl) ?ye22 (by assumption) ?re22
                          case ye22 => (intro w hSw; (try dsimp only at hSw); go_simp; try with_reducible rfl)
                          try simp only [Act.put, List.setIfInBounds_toArray, List.set_cons_zero, List.set_cons_succ]
                          refine st_pure (i := 23) (v := ?ve23) rfl (by kernel_rfl) (by kernel_rfl) (by kernel_rfl) (by kernel_rfl) (fun _ _ _ h => h) (by rfl) ?ye23 (.inl (by assumption)) ?re23
                          case ye23 => (intro w; go_simp; try with_reducible rfl)
                          try simp only [Act.put, List.setIfInBounds_toArray, List.set_cons_zero, List.set_cons_succ]
                          refine st_pure (i := 24) (v := ?ve24) rfl (by kernel_rfl) (by kernel_rfl) (by kernel_rfl) (by kernel_rfl) (fun _ _ _ h => h) (by rfl) ?ye24 (.inl (by assumption)) ?re24
                          case ye24 => (intro w; go_simp; try with_reducible rfl)
                          try simp only [Act.put, List.setIfInBounds_toArray, List.set_cons_zero, List.set_cons_succ]
                          refine st_run (i := 25) (v := ?ve25) rfl (by kernel_rfl) (by kernel_rfl) (by kernel_rfl) (by kernel_rfl) (fun _ _ _ h => h) (by rfl) ?ye25 (by assumption) ?re25
                          case ye25 => (intro w hSw; (try dsimp only at hSw); go_simp; try with_reducible rfl)
                          try simp only [Act.put, List.setIfInBounds_toArray, List.set_cons_zero, List.set_cons_succ]
                          refine st_pure (i := 26) (v := ?ve26) rfl (by kernel_rfl) (by kernel_rfl) (by kernel_rfl) (by kernel_rfl) (fun _ _ _ h => h) (by rfl) ?ye26 (.inl (by assumption)) ?re26
                          case ye26 => (intro w; go_simp; try with_reducible rfl)
                          try simp only [Act.put, List.setIfInBounds_toArray, List.set_cons_zero, List.set_cons_succ]
                          refine st_pure (i := 27) (v := ?ve27) rfl (by kernel_rfl) (by kernel_rfl) (by kernel_rfl) (by kernel_rfl) (fun _ _ _ h => h) (by rfl) ?ye27 (.inl (by assumption)) ?re27
                          case ye27 => (intro w; go_simp; try with_reducible rfl)
                          try simp only [Act.put, List.setIfInBounds_toArray, List.set_cons_zero, List.set_cons_succ]
                          refine st_run (i := 28) (v := ?ve28) rfl (by kernel_rfl) (by kernel_rfl) (by kernel_rfl) (by kernel_rfl) (fun _ _ _ h => h) (by rfl) ?ye28 (by assumption) ?re28
                          case ye28 => (intro w hSw; (try dsimp only at hSw); go_simp; try with_reducible rfl)
                          try simp only [Act.put, List.setIfInBounds_toArray, List.set_cons_zero, List.set_cons_succ]
                          refine st_pure (i := 29) (v := ?ve29) rfl (by kernel_rfl) (by kernel_rfl) (by kernel_rfl) (by kernel_rfl) (fun _ _ _ h => h) (by rfl) ?ye29 (.inl (by assumption)) ?re29
                          case ye29 => (intro w; go_simp; try with_reducible rfl)
                          try simp only [Act.put, List.setIfInBounds_toArray, List.set_cons_zero, List.set_cons_succ]
                          refine st_pure (i := 30) (v := ?ve30) rfl (by kernel_rfl) (by kernel_rfl) (by kernel_rfl) (by kernel_rfl) (fun _ _ _ h => h) (by rfl) ?ye30 (.inl (by assumption)) ?re30
                          case ye30 => (intro w; go_simp; try with_reducible rfl)
                          try simp only [Act.put, List.setIfInBounds_toArray, List.set_cons_zero, List.set_cons_succ]
                          refine st_late (i := 31) rfl (by kernel_rfl) (by rfl) (by kernel_rfl) (fun Kq hK => ?_)
                          go_simp
                          refine hK.out _ _ ?_
                          clear hK Kq
                          try simp only [Act.put, List.setIfInBounds_toArray, List.set_cons_zero, List.set_cons_succ]
                          refine wpAnyD_done (by kernel_rfl) ?_ _
                          refine NoPanic.normal ?_
                          go_wp2_with fail
                          go_roundw
                          case rel => exact ⟨m + 1, _, hmn, by go_num, HSn.out, HCn.out, HGn.out⟩
                          case measure => simp [intOf]; omega
                        · simp only [Bool.true_or] at HCn HSn HGn
                          go_wp2_with fail
                          refine wp_region_noPanic ?_
                          refine stage_start (S := (fun w' => w'.cell? ⟨P, 9, none⟩ = some (.slice (some ⟨bf, 0, none⟩) k cf) ∧ w'.cell? ⟨bf, r, none⟩ = some (.slice (some ⟨bi, 0, none⟩) k k) ∧ w'.cell? ⟨bf, q, none⟩ = some (.slice (some ⟨bk, 0, none⟩) k k) ∧ w'.cell? ⟨bi, m, none⟩ = some (.bool true) ∧ w'.cell? ⟨bk, m, none⟩ = some (.bool z))) 31 (by kernel_rfl) ?hd (fun hHeld => ?bd)
                          case hd => ((try dsimp only); go_keep)
                          refine st_pure (i := 0) (v := ?vd0) rfl (by kernel_rfl) (by kernel_rfl) (by kernel_rfl) (by kernel_rfl) (fun _ _ _ h => h) (by rfl) ?yd0 (.inl (by assumption)) ?rd0
                          case yd0 => (intro w; go_simp; try with_reducible rfl)
                          try simp only [Act.put, List.setIfInBounds_toArray, List.set_cons_zero, List.set_cons_succ]
                          refine st_pure (i := 1) (v := ?vd1) rfl (by kernel_rfl) (by kernel_rfl) (by kernel_rfl) (by kernel_rfl) (fun _ _ _ h => h) (by rfl) ?yd1 (.inl (by assumption)) ?rd1
                          case yd1 => (intro w; go_simp; try with_reducible rfl)
                          try simp only [Act.put, List.setIfInBounds_toArray, List.set_cons_zero, List.set_cons_succ]
                          refine st_pure (i := 2) (v := ?vd2) rfl (by kernel_rfl) (by kernel_rfl) (by kernel_rfl) (by kernel_rfl) (fun _ _ _ h => h) (by rfl) ?yd2 (.inl (by assumption)) ?rd2
                          case yd2 => (intro w; go_simp; try with_reducible rfl)
                          try simp only [Act.put, List.setIfInBounds_toArray, List.set_cons_zero, List.set_cons_succ]
                          refine st_run (i := 3) (v := ?vd3) rfl (by kernel_rfl) (by kernel_rfl) (by kernel_rfl) (by kernel_rfl) (fun _ _ _ h => h) (by rfl) ?yd3 (by assumption) ?rd3
                          case yd3 => (intro w hSw; (try dsimp only at hSw); go_simp; try with_reducible rfl)
                          try simp only [Act.put, List.setIfInBounds_toArray, List.set_cons_zero, List.set_cons_succ]
                          refine st_pure (i := 4) (v := ?vd4) rfl (by kernel_rfl) (by kernel_rfl) (by kernel_rfl) (by kernel_rfl) (fun _ _ _ h => h) (by rfl) ?yd4 (.inl (by assumption)) ?rd4
                          case yd4 => (intro w; go_simp; try with_reducible rfl)
                          try simp only [Act.put, List.setIfInBounds_toArray, List.set_cons_zero, List.set_cons_succ]
                          refine st_pure (i := 5) (v := ?vd5) rfl (by kernel_rfl) (by kernel_rfl) (by kernel_rfl) (by kernel_rfl) (fun _ _ _ h => h) (by rfl) ?yd5 (.inl (by assumption)) ?rd5
                          case yd5 => (intro w; go_simp; try with_reducible rfl)
                          try simp only [Act.put, List.setIfInBounds_toArray, List.set_cons_zero, List.set_cons_succ]
                          refine st_run (i := 6) (v := ?vd6) rfl (by kernel_rfl) (by kernel_rfl) (by kernel_rfl) (by kernel_rfl) (fun _ _ _ h => h) (by rfl) ?yd6 (by assumption) ?rd6
                          case yd6 => (intro w hSw; (try dsimp only at hSw); go_simp; try with_reducible rfl)
                          try simp only [Act.put, List.setIfInBounds_toArray, List.set_cons_zero, List.set_cons_succ]
                          refine st_pure (i := 7) (v := ?vd7) rfl (by kernel_rfl) (by kernel_rfl) (by kernel_rfl) (by kernel_rfl) (fun _ _ _ h => h) (by rfl) ?yd7 (.inl (by assumption)) ?rd7
                          case yd7 => (intro w; go_simp; try with_reducible rfl)
                          try simp only [Act.put, List.setIfInBounds_toArray, List.set_cons_zero, List.set_cons_succ]
                          refine st_pure (i := 8) (v := ?vd8) rfl (by kernel_rfl) (by kernel_rfl) (by kernel_rfl) (by kernel_rfl) (fun _ _ _ h => h) (by rfl) ?yd8 (.inl (by assumption)) ?rd8
                          case yd8 => (intro w; go_simp; try with_reducible rfl)
                          try simp only [Act.put, List.setIfInBounds_toArray, List.set_cons_zero, List.set_cons_succ]
                          refine st_pure (i := 9) (v := ?vd9) rfl (by kernel_rfl) (by kernel_rfl) (by kernel_rfl) (by kernel_rfl) (fun _ _ _ h => h) (by rfl) ?yd9 (.inl (by assumption)) ?rd9
                          case yd9 => (intro w; go_simp; try with_reducible rfl)
                          try simp only [Act.put, List.setIfInBounds_toArray, List.set_cons_zero, List.set_cons_succ]
                          refine st_pure (i := 10) (v := ?vd10) rfl (by kernel_rfl) (by kernel_rfl) (by kernel_rfl) (by kernel_rfl) (fun _ _ _ h => h) (by rfl) ?yd10 (.inl (by assumption)) ?rd10
                          case yd10 => (intro w; go_simp; try with_reducible rfl)
                          try simp only [Act.put, List.setIfInBounds_toArray, List.set_cons_zero, List.set_cons_succ]
                          refine st_run (i := 11) (v := ?vd11) rfl (by kernel_rfl) (by kernel_rfl) (by kernel_rfl) (by kernel_rfl) (fun _ _ _ h => h) (by rfl) ?yd11 (by assumption) ?rd11
                          case yd11 => (intro w hSw; (try dsimp only at hSw); go_simp; try with_reducible rfl)
                          try simp only [Act.put, List.setIfInBounds_toArray, List.set_cons_zero, List.set_cons_succ]
                          refine st_pure (i := 12) (v := ?vd12) rfl (by kernel_rfl) (by kernel_rfl) (by kernel_rfl) (by kernel_rfl) (fun _ _ _ h => h) (by rfl) ?yd12 (.inl (by assumption)) ?rd12
                          case yd12 => (intro w; go_simp; try with_reducible rfl)
                          try simp only [Act.put, List.setIfInBounds_toArray, List.set_cons_zero, List.set_cons_succ]
                          refine st_pure (i := 13) (v := ?vd13) rfl (by kernel_rfl) (by kernel_rfl) (by kernel_rfl) (by kernel_rfl) (fun _ _ _ h => h) (by rfl) ?yd13 (.inl (by assumption)) ?rd13
                          case yd13 => (intro w; go_simp; try with_reducible rfl)
                          try simp only [Act.put, List.setIfInBounds_toArray, List.set_cons_zero, List.set_cons_succ]
                          refine st_run (i := 14) (v := ?vd14) rfl (by kernel_rfl) (by kernel_rfl) (by kernel_rfl) (by kernel_rfl) (fun _ _ _ h => h) (by rfl) ?yd14 (by assumption) ?rd14
                          case yd14 => (intro w hSw; (try dsimp only at hSw); go_simp; try with_reducible rfl)
                          try simp only [Act.put, List.setIfInBounds_toArray, List.set_cons_zero, List.set_cons_succ]
                          refine st_pure (i := 15) (v := ?vd15) rfl (by kernel_rfl) (by kernel_rfl) (by kernel_rfl) (by kernel_rfl) (fun _ _ _ h => h) (by rfl) ?yd15 (.inl (by assumption)) ?rd15
                          case yd15 => (intro w; go_simp; try with_reducible rfl)
                          try simp only [Act.put, List.setIfInBounds_toArray, List.set_cons_zero, List.set_cons_succ]
                          refine st_pure (i := 16) (v := ?vd16) rfl (by kernel_rfl) (by kernel_rfl) (by kernel_rfl) (by kernel_rfl) (fun _ _ _ h => h) (by rfl) ?yd16 (.inl (by assumption)) ?rd16
                          case yd16 => (intro w; go_simp; try with_reducible rfl)
                          try simp only [Act.put, List.setIfInBounds_toArray, List.set_cons_zero, List.set_cons_succ]
                          refine st_run (i := 17) (v := ?vd17) rfl (by kernel_rfl) (by kernel_rfl) (by kernel_rfl) (by kernel_rfl) (fun _ _ _ h => h) (by rfl) ?yd17 (by assumption) ?rd17
                          case yd17 => (intro w hSw; (try dsimp only at hSw); go_simp; try with_reducible rfl)
                          try simp only [Act.put, List.setIfInBounds_toArray, List.set_cons_zero, List.set_cons_succ]
                          refine st_pure (i := 18) (v := ?vd18) rfl (by kernel_rfl) (by kernel_rfl) (by kernel_rfl) (by kernel_rfl) (fun _ _ _ h => h) (by rfl) ?yd18 (.inl (by assumption)) ?rd18
                          case yd18 => (intro w; go_simp; try with_reducible rfl)
                          try simp only [Act.put, List.setIfInBounds_toArray, List.set_cons_zero, List.set_cons_succ]
                          refine st_bar (i := 19) rfl (by kernel_rfl) (by kernel_rfl) (by kernel_rfl) (by kernel_rfl) (fun _ _ _ h => h) (by rfl) (.inl (by assumption)) ?_
                          try simp only [Act.put, List.setIfInBounds_toArray, List.set_cons_zero, List.set_cons_succ]
                          refine st_bar (i := 20) rfl (by kernel_rfl) (by kernel_rfl) (by kernel_rfl) (by kernel_rfl) (fun _ _ _ h => h) (by rfl) (.inl (by assumption)) ?_
                          try simp only [Act.put, List.setIfInBounds_toArray, List.set_cons_zero, List.set_cons_succ]
                          refine st_bar (i := 21) rfl (by kernel_rfl) (by kernel_rfl) (by kernel_rfl) (by kernel_rfl) (fun _ _ _ h => h) (by rfl) (.inl (by assumption)) ?_
                          try simp only [Act.put, List.setIfInBounds_toArray, List.set_cons_zero, List.set_cons_succ]
                          refine st_bar (i := 22) rfl (by kernel_rfl) (by kernel_rfl) (by kernel_rfl) (by kernel_rfl) (fun _ _ _ h => h) (by rfl) (.inl (by assumption)) ?_
                          try simp only [Act.put, List.setIfInBounds_toArray, List.set_cons_zero, List.set_cons_succ]
                          refine st_bar (i := 23) rfl (by kernel_rfl) (by kernel_rfl) (by kernel_rfl) (by kernel_rfl) (fun _ _ _ h => h) (by rfl) (.inl (by assumption)) ?_
                          try simp only [Act.put, List.setIfInBounds_toArray, List.set_cons_zero, List.set_cons_succ]
                          refine st_bar (i := 24) rfl (by kernel_rfl) (by kernel_rfl) (by kernel_rfl) (by kernel_rfl) (fun _ _ _ h => h) (by rfl) (.inl (by assumption)) ?_
                          try simp only [Act.put, List.setIfInBounds_toArray, List.set_cons_zero, List.set_cons_succ]
                          refine st_bar (i := 25) rfl (by kernel_rfl) (by kernel_rfl) (by kernel_rfl) (by kernel_rfl) (fun _ _ _ h => h) (by rfl) (.inl (by assumption)) ?_
                          try simp only [Act.put, List.setIfInBounds_toArray, List.set_cons_zero, List.set_cons_succ]
                          refine st_bar (i := 26) rfl (by kernel_rfl) (by kernel_rfl) (by kernel_rfl) (by kernel_rfl) (fun _ _ _ h => h) (by rfl) (.inl (by assumption)) ?_
                          try simp only [Act.put, List.setIfInBounds_toArray, List.set_cons_zero, List.set_cons_succ]
                          refine st_bar (i := 27) rfl (by kernel_rfl) (by kernel_rfl) (by kernel_rfl) (by kernel_rfl) (fun _ _ _ h => h) (by rfl) (.inl (by assumption)) ?_
                          try simp only [Act.put, List.setIfInBounds_toArray, List.set_cons_zero, List.set_cons_succ]
                          refine st_bar (i := 28) rfl (by kernel_rfl) (by kernel_rfl) (by kernel_rfl) (by kernel_rfl) (fun _ _ _ h => h) (by rfl) (.inl (by assumption)) ?_
                          try simp only [Act.put, List.setIfInBounds_toArray, List.set_cons_zero, List.set_cons_succ]
                          refine st_pure (i := 29) (v := ?vd29) rfl (by kernel_rfl) (by kernel_rfl) (by kernel_rfl) (by kernel_rfl) (fun _ _ _ h => h) (by rfl) ?yd29 (.inl (by assumption)) ?rd29
                          case yd29 => (intro w; go_simp; try with_reducible rfl)
                          try simp only [Act.put, List.setIfInBounds_toArray, List.set_cons_zero, List.set_cons_succ]
                          refine st_pure (i := 30) (v := ?vd30) rfl (by kernel_rfl) (by kernel_rfl) (by kernel_rfl) (by kernel_rfl) (fun _ _ _ h => h) (by rfl) ?yd30 (.inl (by assumption)) ?rd30
                          case yd30 => (intro w; go_simp; try with_reducible rfl)
                          try simp only [Act.put, List.setIfInBounds_toArray, List.set_cons_zero, List.set_cons_succ]
                          refine st_late (i := 31) rfl (by kernel_rfl) (by rfl) (by kernel_rfl) (fun Kq hK => ?_)
                          go_simp
                          refine hK.out _ _ ?_
                          clear hK Kq
                          try simp only [Act.put, List.setIfInBounds_toArray, List.set_cons_zero, List.set_cons_succ]
                          refine wpAnyD_done (by kernel_rfl) ?_ _
                          refine NoPanic.normal ?_
                          go_wp2_with fail
                          go_roundw
                          case rel => exact ⟨m + 1, _, hmn, by go_num, HSn.out, HCn.out, HGn.out⟩
                          case measure => simp [intOf]; omega
                      · have hmm : m = k := by omega
                        have HCr : Hid (CloS E k q (r + 1) 0 f3) := Lib.hid (by have h := HCd.out; rw [hmm] at h; exact h.row)
                        go_wp2_with fail
                        go_roundw
                        case rel => exact ⟨r + 1, f3, hrn, by go_num, HSd.out, HCr.out⟩
                        case measure => simp [intOf]; omega
                · have hrr : r = k := by omega
                  have HCr : Hid (CloS E k (q + 1) 0 0 f2) := Lib.hid (by have h := HCb.out; rw [hrr] at h; exact h.round)
                  go_wp2_with fail
                  go_roundw
                  case rel => exact ⟨q + 1, f2, hqn, by go_num, HSb.out, HCr.out⟩
                  case measure => simp [intOf]; omega
            · have hqq : q = k := by omega
              have HCr : Hid (CloS E k k 0 0 f1) := Lib.hid (by have h := HCa.out; rw [hqq] at h; exact h)
              go_wp2
              have hfin : ∀ a b, a < k → b < k → (Gt f1 a b ↔ Leads k ps a b) := fun a b ha hb => by have h := HCr.out.done HRin.out a b ha hb; rw [HEq.out] at h; exact h
              exact bodyPost_end (v := .tuple #[]) (by simp [results, Tryd.results105, go_sem]) rfl ⟨bf, bs, cf, f1, rfl, HSa.out, hfin, HBs.out⟩
end Go.Proofs.YtecofoilghdedaaDoor
