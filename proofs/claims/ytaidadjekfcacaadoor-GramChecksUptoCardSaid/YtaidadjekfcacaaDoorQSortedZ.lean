/- Contract: gram.Sorted, every grammar: an invalid one, one without rules, the others. -/
import Derived.Test.YtaidadjekfcacaaDoorQSortedW
import Derived.Test.YtaidadjekfcacaaDoorQOrdersQ
import Derived.Test.YtaidadjekfcacaaDoorQValid
import Derived.Deep.Cut
namespace Go.Proofs.YtaidadjekfcacaaDoor
open Go.RowKit
set_option linter.unusedVariables false

theorem set4S {w : World} {b : Nat} {t : TypeId} {a0 a1 a2 a3 : Value} (h : Blk' w b t #[a0, a1, a2, a3]) (v0 v1 v2 v3 : Value) :
    Blk' ((((w.setCell ⟨b, 0, none⟩ v0).setCell ⟨b, 1, none⟩ v1).setCell ⟨b, 2, none⟩ v2).setCell ⟨b, 3, none⟩ v3) b t #[v0, v1, v2, v3] ∧ Kept (fun x => x = b) w ((((w.setCell ⟨b, 0, none⟩ v0).setCell ⟨b, 1, none⟩ v1).setCell ⟨b, 2, none⟩ v2).setCell ⟨b, 3, none⟩ v3) :=
  ⟨(((h.set_ 0 _).set_ 1 _).set_ 2 _).set_ 3 _, ((((Kept.refl (fun x => x = b) w).setCell (p := ⟨b, 0, none⟩) (.inl rfl) _).setCell (p := ⟨b, 1, none⟩) (.inl rfl) _).setCell (p := ⟨b, 2, none⟩) (.inl rfl) _).setCell (p := ⟨b, 3, none⟩) (.inl rfl) _⟩
set_option maxRecDepth 100000 in
theorem insNil_any (fv : Value) (w : World) : Calls Tryd.prog 170 #[.slice none 0 0, .int .i64 0, .int .i64 0, fv] w fun e w' => e = .returned (.tuple #[]) ∧ w = w' := by
  go_enter Tryd.func170, Tryd.ntmps170
  go_wp2
  go_loopw [8] (fun i wr => i = .int .i64 1 ∧ wr = w) (fun _ _ => 0)
  case atStart => exact ⟨rfl, rfl⟩
  case round =>
    obtain ⟨rfl, rfl⟩ := hrel
    go_wp2
    go_end0
    exact ⟨rfl, rfl⟩
set_option maxRecDepth 100000 in
set_option maxHeartbeats 1000000 in
theorem pdqNil_any (lim : Int) (fv : Value) (w : World) : Calls Tryd.prog 146 #[.slice none 0 0, .int .i64 0, .int .i64 0, .int .i64 lim, fv] w fun e w' => e = .returned (.tuple #[]) ∧ w = w' := by
  have HI := fun W => Lib.hid (insNil_any fv W)
  go_enter Tryd.func146, Tryd.ntmps146
  go_wp2_with fail
  go_loopw [1, 2] (fun a b wr => a = .int .i64 0 ∧ b = .int .i64 0 ∧ wr = w) (fun _ _ _ => 0)
  case atStart => exact ⟨rfl, rfl, rfl⟩
  case round =>
    obtain ⟨rfl, rfl, rfl⟩ := hrel
    go_wp2_with fail
    refine (HI _).out.mono ?_
    rintro e w1 ⟨rfl, rfl⟩
    go_wp2_with fail
    exact bodyPost_ret (v := .tuple #[]) (results_none rfl _ _ _) rfl ⟨rfl, rfl⟩
set_option maxRecDepth 100000 in
set_option maxHeartbeats 1000000 in
theorem sortNil_any (fv : Value) (w : World) : Calls Tryd.prog 106 #[.slice none 0 0, fv] w fun e w' => e = .returned (.tuple #[]) ∧ w = w' := by
  have HI := fun lim W => Lib.hid (pdqNil_any lim fv W)
  go_enter Tryd.func106, Tryd.ntmps106
  go_wp2_with fail
  refine (bitsLen_any 0 (by omega) w).mono ?_
  rintro e w1 ⟨⟨k, rfl⟩, rfl⟩
  go_wp2_with fail
  refine (HI k _).out.mono ?_
  rintro e w2 ⟨rfl, rfl⟩
  clear HI
  go_wp2_with fail
  go_end0
  exact ⟨rfl, rfl⟩

set_option maxRecDepth 100000 in
set_option maxHeartbeats 2000000 in
theorem sortedBad_any (g : Gram) (A : Option Addr) (c : Nat) (Sr : Nat → Prop) (w : World) (hck : ¬ checkI g = 0) (hlc : g.rules.length ≤ c) (hc : c ≤ 9223372036854775807) (hA : Els w Sr g.rules A) :
    Calls Tryd.prog 47 #[.agg #[.int .i64 g.terms, .int .i64 g.nons, .int .i64 g.start, .slice A g.rules.length c]] w fun e w' => e = .returned (.tuple #[.agg #[.int .i64 0, .int .i64 0, .int .i64 0, .slice none 0 0], .slice none 0 0, .int .i64 (checkI g)]) ∧ Below w.heap.size w w' := by
  obtain ⟨t, n, s, rs⟩ := g
  dsimp only at *
  obtain ⟨w0, hw0⟩ : ∃ w0 : World, w0 = (w.alloc (.cells #[.int .i64 t, .int .i64 n, .int .i64 s, .slice A rs.length c] 25)).alloc (.cells #[.int .i64 0, .int .i64 0, .int .i64 0, .slice none 0 0] 25) := ⟨_, rfl⟩
  have HW0 := Lib.hid hw0
  have hb0 : Below w.heap.size w w0 := by rw [hw0]; exact ((Below.refl _ _).alloc (Nat.le_refl _) _).alloc (by simp) _
  have HP0 : Hid (Blk' w0 w.heap.size 25 #[.int .i64 t, .int .i64 n, .int .i64 s, .slice A rs.length c]) := Lib.hid (by rw [hw0]; exact (Blk'.new w _ _).alloc _)
  have HR0 : Hid (Blk' w0 (w.heap.size + 1) 25 #[.int .i64 0, .int .i64 0, .int .i64 0, .slice none 0 0]) := Lib.hid (by rw [hw0]; exact Blk'.new' _ _ _ (by simp))
  have HB0 := Lib.hid hb0
  have HCk := Lib.hid (check_any ⟨t, n, s, rs⟩ A c Sr w0 hlc hc (hA.below hb0))
  have p0 : w0.cell? ⟨w.heap.size, 0, none⟩ = some (.int .i64 t) := HP0.out.cell 0
  have p1 : w0.cell? ⟨w.heap.size, 1, none⟩ = some (.int .i64 n) := HP0.out.cell 1
  have p2 : w0.cell? ⟨w.heap.size, 2, none⟩ = some (.int .i64 s) := HP0.out.cell 2
  have p3 : w0.cell? ⟨w.heap.size, 3, none⟩ = some (.slice A rs.length c) := HP0.out.cell 3
  have zP0 : w.heap.size + 1 < w0.heap.size := HR0.out.lt
  clear hw0 hb0 hA
  go_enter Tryd.func47, Tryd.ntmps47
  go_upto_region 1 with (fail)
  rw [← HW0.out]
  go_wp2_with fail
  refine HCk.out.mono ?_
  rintro e w1 ⟨rfl, hb1⟩
  obtain ⟨E, hE⟩ : ∃ E, E = checkI ⟨t, n, s, rs⟩ := ⟨_, rfl⟩
  rw [← hE] at hck ⊢
  have hR1 := HR0.out.below hb1 HR0.out.lt
  have HR1 := Lib.hid hR1
  have HB1 := Lib.hid (bthen HB0.out hb1 HB0.out.size)
  have hne : (E != 0) = true := by simpa using hck
  have s0 : w1.cell? ⟨w.heap.size + 1, 0, none⟩ = some (.int .i64 0) := hR1.cell 0
  have s1 : w1.cell? ⟨w.heap.size + 1, 1, none⟩ = some (.int .i64 0) := hR1.cell 1
  have s2 : w1.cell? ⟨w.heap.size + 1, 2, none⟩ = some (.int .i64 0) := hR1.cell 2
  have s3 : w1.cell? ⟨w.heap.size + 1, 3, none⟩ = some (.slice none 0 0) := hR1.cell 3
  have r0 := hR1.frozen 0
  have r1 := hR1.frozen 1
  have r2 := hR1.frozen 2
  have r3 := hR1.frozen 3
  have zR : w.heap.size + 1 < w1.heap.size := hR1.lt
  have HEE := Lib.hid hE
  clear hb1 hR1 p0 p1 p2 p3 hE hck
  go_wp2_with fail
  generalize hwF : World.setCell _ _ _ = wF
  obtain ⟨hn, kk⟩ := set4S HR1.out (.int .i64 0) (.int .i64 0) (.int .i64 0) (.slice none 0 0)
  rw [hwF] at hn kk
  have u0 : wF.cell? ⟨w.heap.size + 1, 0, none⟩ = some (.int .i64 0) := hn.cell 0
  have u1 : wF.cell? ⟨w.heap.size + 1, 1, none⟩ = some (.int .i64 0) := hn.cell 1
  have u2 : wF.cell? ⟨w.heap.size + 1, 2, none⟩ = some (.int .i64 0) := hn.cell 2
  have u3 : wF.cell? ⟨w.heap.size + 1, 3, none⟩ = some (.slice none 0 0) := hn.cell 3
  clear hwF
  refine bodyPost_ret (v := .tuple #[.agg #[.int .i64 0, .int .i64 0, .int .i64 0, .slice none 0 0], .slice none 0 0, .int .i64 E]) (by simp [results, Tryd.results47, go_sem, u0, u1, u2, u3]) rfl ⟨by rw [HEE.out], HB1.out.trans (kk.to_below (B := w.heap.size) (fun b (hb : b = w.heap.size + 1) => by omega) HB1.out.size)⟩

set_option maxRecDepth 100000 in
set_option maxHeartbeats 2000000 in
theorem sortedZ_any (t n s : Int) (A : Option Addr) (c : Nat) (w : World) (hck : checkI ⟨t, n, s, []⟩ = 0) (hc : c ≤ 9223372036854775807) :
    Calls Tryd.prog 47 #[.agg #[.int .i64 t, .int .i64 n, .int .i64 s, .slice A 0 c]] w fun e w' => ∃ (A1 : Option Addr) (c1 : Nat), e = .returned (.tuple #[.agg #[.int .i64 t, .int .i64 n, .int .i64 s, .slice A1 0 c1], .slice none 0 0, .int .i64 0]) ∧ c1 ≤ 9223372036854775807 ∧ Below w.heap.size w w' := by
  obtain ⟨w0, hw0⟩ : ∃ w0 : World, w0 = (w.alloc (.cells #[.int .i64 t, .int .i64 n, .int .i64 s, .slice A 0 c] 25)).alloc (.cells #[.int .i64 0, .int .i64 0, .int .i64 0, .slice none 0 0] 25) := ⟨_, rfl⟩
  have HW0 := Lib.hid hw0
  have hb0 : Below w.heap.size w w0 := by rw [hw0]; exact ((Below.refl _ _).alloc (Nat.le_refl _) _).alloc (by simp) _
  have HP0 : Hid (Blk' w0 w.heap.size 25 #[.int .i64 t, .int .i64 n, .int .i64 s, .slice A 0 c]) := Lib.hid (by rw [hw0]; exact (Blk'.new w _ _).alloc _)
  have HR0 : Hid (Blk' w0 (w.heap.size + 1) 25 #[.int .i64 0, .int .i64 0, .int .i64 0, .slice none 0 0]) := Lib.hid (by rw [hw0]; exact Blk'.new' _ _ _ (by simp))
  have HB0 := Lib.hid hb0
  have HCk := Lib.hid (check_any ⟨t, n, s, []⟩ A c (fun _ => False) w0 (by simp) hc (fun h => absurd rfl h))
  rw [hck] at HCk
  have p0 : w0.cell? ⟨w.heap.size, 0, none⟩ = some (.int .i64 t) := HP0.out.cell 0
  have p1 : w0.cell? ⟨w.heap.size, 1, none⟩ = some (.int .i64 n) := HP0.out.cell 1
  have p2 : w0.cell? ⟨w.heap.size, 2, none⟩ = some (.int .i64 s) := HP0.out.cell 2
  have p3 : w0.cell? ⟨w.heap.size, 3, none⟩ = some (.slice A 0 c) := HP0.out.cell 3
  have zP0 : w.heap.size + 1 < w0.heap.size := HR0.out.lt
  clear hw0 hb0 hck
  go_enter Tryd.func47, Tryd.ntmps47
  go_upto_region 1 with (fail)
  rw [← HW0.out]
  go_wp2_with fail
  refine HCk.out.mono ?_
  rintro e w1 ⟨rfl, hb1⟩
  have hP1 := HP0.out.below hb1 HP0.out.lt
  have HP1 := Lib.hid hP1
  have HR1 := Lib.hid (HR0.out.below hb1 HR0.out.lt)
  have HB1 := Lib.hid (bthen HB0.out hb1 HB0.out.size)
  have q3 : w1.cell? ⟨w.heap.size, 3, none⟩ = some (.slice A 0 c) := hP1.cell 3
  clear hb1 hP1 p0 p1 p2 p3
  go_wp2_with fail
  go_loopw [6, 20] (fun v i wr => v = .slice none 0 0 ∧ i = .int .i64 0 ∧ wr = w1) (fun _ _ _ => 0)
  case atStart => exact ⟨rfl, rfl, rfl⟩
  case round =>
    obtain ⟨wo, hwo⟩ : ∃ wo : World, wo = wr := ⟨_, rfl⟩
    subst hwo
    obtain ⟨rfl, rfl, hwr⟩ := hrel
    subst hwr
    have hmf : ∀ (fn : Fn) (first cap : Array Value) (w : World), (Instr.makeFunc fn first cap).run Tryd.prog w = .ok (.func fn first cap) w := fun _ _ _ _ => rfl
    have HSort := fun fv => Lib.hid (sortNil_any fv wo)
    go_wp2_with fail
    refine (HSort _).out.mono ?_
    rintro e w2 ⟨rfl, hww⟩
    subst hww
    clear HSort
    have hP2 := HP1.out
    have p0 : wo.cell? ⟨w.heap.size, 0, none⟩ = some (.int .i64 t) := hP2.cell 0
    have p1 : wo.cell? ⟨w.heap.size, 1, none⟩ = some (.int .i64 n) := hP2.cell 1
    have p2 : wo.cell? ⟨w.heap.size, 2, none⟩ = some (.int .i64 s) := hP2.cell 2
    have p3 : wo.cell? ⟨w.heap.size, 3, none⟩ = some (.slice A 0 c) := hP2.cell 3
    have zP : w.heap.size < wo.heap.size := hP2.lt
    clear hP2 q3
    go_wp2_with fail
    refine (copyG_any t n s [] A c (fun _ => False) wo (by simp) (by simp) (by simp) hc (fun h => absurd rfl h) (fun b h => h.elim)).mono ?_
    rintro e w3 ⟨v3, rfl, hO3, hb3⟩
    obtain ⟨A3, c3, hv3, _, hc3, _⟩ := hO3.form
    have hv3' : v3 = .slice A3 0 c3 := hv3
    clear hv3
    subst hv3'
    obtain ⟨w4, hw4⟩ : ∃ w4 : World, w4 = w3.alloc (.cells #[.int .i64 t, .int .i64 n, .int .i64 s, .slice A3 0 c3] 25) := ⟨_, rfl⟩
    have HW4 := Lib.hid hw4
    have hb4 : Below w3.heap.size w3 w4 := by rw [hw4]; exact (Below.refl _ _).alloc (Nat.le_refl _) _
    have hG4 : Blk' w4 w3.heap.size 25 #[.int .i64 t, .int .i64 n, .int .i64 s, .slice A3 0 c3] := by rw [hw4]; exact Blk'.new w3 _ _
    have hR4 := HR1.out.below (bthen hb3 hb4 hb3.size) HR1.out.lt
    have HR4 := Lib.hid hR4
    have HB4 := Lib.hid (bthen HB1.out (bthen hb3 hb4 hb3.size) HB1.out.size)
    have g0 : w4.cell? ⟨w3.heap.size, 0, none⟩ = some (.int .i64 t) := hG4.cell 0
    have g1 : w4.cell? ⟨w3.heap.size, 1, none⟩ = some (.int .i64 n) := hG4.cell 1
    have g2 : w4.cell? ⟨w3.heap.size, 2, none⟩ = some (.int .i64 s) := hG4.cell 2
    have g3 : w4.cell? ⟨w3.heap.size, 3, none⟩ = some (.slice A3 0 c3) := hG4.cell 3
    have s0 : w4.cell? ⟨w.heap.size + 1, 0, none⟩ = some (.int .i64 0) := hR4.cell 0
    have s1 : w4.cell? ⟨w.heap.size + 1, 1, none⟩ = some (.int .i64 0) := hR4.cell 1
    have s2 : w4.cell? ⟨w.heap.size + 1, 2, none⟩ = some (.int .i64 0) := hR4.cell 2
    have s3 : w4.cell? ⟨w.heap.size + 1, 3, none⟩ = some (.slice none 0 0) := hR4.cell 3
    have r0 := hR4.frozen 0
    have r1 := hR4.frozen 1
    have r2 := hR4.frozen 2
    have r3 := hR4.frozen 3
    have zG : w3.heap.size < w4.heap.size := hG4.lt
    have zR : w.heap.size + 1 < w4.heap.size := hR4.lt
    clear hw4 hO3 hb3 hb4 hG4 hR4 p0 p1 p2 p3
    go_upto_region 12 with (fail)
    rw [← HW4.out]
    go_wp2_with fail
    go_loopw [35] (fun i wr => i = .int .i64 0 ∧ wr = w4) (fun _ _ => 0)
    case atStart => exact ⟨rfl, rfl⟩
    case round =>
      obtain ⟨wp, hwp⟩ : ∃ wp : World, wp = wr := ⟨_, rfl⟩
      subst hwp
      obtain ⟨rfl, hwr⟩ := hrel
      subst hwr
      go_wp2_with fail
      generalize hwF : World.setCell _ _ _ = wF
      obtain ⟨hn, kk⟩ := set4S HR4.out (.int .i64 t) (.int .i64 n) (.int .i64 s) (.slice A3 0 c3)
      rw [hwF] at hn kk
      have u0 : wF.cell? ⟨w.heap.size + 1, 0, none⟩ = some (.int .i64 t) := hn.cell 0
      have u1 : wF.cell? ⟨w.heap.size + 1, 1, none⟩ = some (.int .i64 n) := hn.cell 1
      have u2 : wF.cell? ⟨w.heap.size + 1, 2, none⟩ = some (.int .i64 s) := hn.cell 2
      have u3 : wF.cell? ⟨w.heap.size + 1, 3, none⟩ = some (.slice A3 0 c3) := hn.cell 3
      clear hwF
      refine bodyPost_ret (v := .tuple #[.agg #[.int .i64 t, .int .i64 n, .int .i64 s, .slice A3 0 c3], .slice none 0 0, .int .i64 0]) (by simp [results, Tryd.results47, go_sem, u0, u1, u2, u3]) rfl ⟨A3, c3, rfl, hc3, HB4.out.trans (kk.to_below (B := w.heap.size) (fun b (hb : b = w.heap.size + 1) => by omega) HB4.out.size)⟩
/-- What gram.Sorted of a valid grammar gives. -/
def RetSrt (t n s : Int) (rs : List Rule) (w : World) (e : Ending) (w' : World) : Prop :=
  ∃ (ys : List Int) (A1 A2 : Option Addr) (c1 c2 : Nat), e = .returned (.tuple #[.agg #[.int .i64 t, .int .i64 n, .int .i64 s, .slice A1 rs.length c1], .slice A2 rs.length c2, .int .i64 0]) ∧ ys.Perm (idxL rs.length) ∧ (ys.map (ruleAt rs)).Pairwise (fun a b => ltRule a b = true) ∧ (ys.map (ruleAt rs)).Perm rs ∧ (rs.length ≤ c1 ∧ c1 ≤ 9223372036854775807 ∧ rs.length ≤ c2 ∧ c2 ≤ 9223372036854775807) ∧ Els w' (fun b => w.heap.size ≤ b ∧ b < w'.heap.size) (ys.map (ruleAt rs)) A1 ∧ Els w' (fun b => w.heap.size ≤ b ∧ b < w'.heap.size) ys A2 ∧ Below w.heap.size w w'
theorem map_idxL (rs : List Rule) : (idxL rs.length).map (ruleAt rs) = rs := by
  apply List.ext_getElem?
  intro i
  unfold idxL
  rw [List.map_map, List.getElem?_map]
  by_cases h : i < rs.length
  · rw [List.getElem?_range h]
    show some (ruleAt rs (i : Int)) = _
    rw [ruleAt_get (List.getElem?_eq_getElem h), List.getElem?_eq_getElem h]
  · rw [List.getElem?_eq_none (by simp; omega), List.getElem?_eq_none (by omega)]
    rfl
theorem sortedV_any (t n s : Int) (rs : List Rule) (A : Option Addr) (c : Nat) (Sr : Nat → Prop) (w : World) (hck : checkI ⟨t, n, s, rs⟩ = 0) (h32 : rs.length ≤ 32) (hnd : rs.Nodup) (hrr : ∀ q ∈ rs, q.right.length ≤ 4) (hlc : rs.length ≤ c) (hc : c ≤ 9223372036854775807) (hA : Els w Sr rs A) (hSr : ∀ b, Sr b → b < w.heap.size) :
    Calls Tryd.prog 47 #[.agg #[.int .i64 t, .int .i64 n, .int .i64 s, .slice A rs.length c]] w (RetSrt t n s rs w) := by
  by_cases hz : rs = []
  · subst hz
    refine (sortedZ_any t n s A c w hck hc).mono ?_
    rintro e w' ⟨A1, c1, rfl, hc1, hb⟩
    exact ⟨[], A1, none, c1, 0, rfl, by simp [idxL], by simp, by simp, ⟨by simp, hc1, by simp, by omega⟩, fun h => absurd rfl h, fun h => absurd rfl h, hb⟩
  · have h1 : 1 ≤ rs.length := by cases rs with | nil => exact absurd rfl hz | cons a l => simp
    refine (sortedW_any t n s rs A c Sr w hck h1 h32 hnd (fun q hq => by have := hrr q hq; omega) hlc hc hA hSr).mono ?_
    rintro e w' ⟨ys, g1, c1, g2, c2, rfl, hp, hs, hcs, h5, h6, hb⟩
    have hl : ys.length = rs.length := by rw [hp.length_eq, idxL_len]
    refine ⟨ys, some ⟨g1, 0, none⟩, some ⟨g2, 0, none⟩, c1, c2, rfl, hp, ?_, ?_, hcs, h5, h6, hb⟩
    · rw [List.pairwise_map, List.pairwise_iff_getElem]
      intro i j hi hj hij
      exact hs i j _ _ hij (by omega) (List.getElem?_eq_getElem hi) (List.getElem?_eq_getElem hj)
    · have h9 := hp.map (ruleAt rs)
      rw [map_idxL] at h9
      exact h9
end Go.Proofs.YtaidadjekfcacaaDoor
