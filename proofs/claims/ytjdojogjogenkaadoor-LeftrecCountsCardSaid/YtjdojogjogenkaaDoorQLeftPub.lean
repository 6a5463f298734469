/- Contract: leftrec.Of of a valid grammar. -/
import Derived.Test.YtjdojogjogenkaaDoorQLeftOf
import Derived.Test.YtjdojogjogenkaaDoorQCopyG
namespace Go.Proofs.YtjdojogjogenkaaDoor
open Go.RowKit
set_option linter.unusedVariables false
def RetStr (g : Gram) (n : Nat) (w : World) (e : Ending) (w' : World) : Prop :=
 (∃ k, StrBad g n k ∧ e = .returned (.tuple #[.agg #[.int .i64 0, .int .i64 0, .int .i64 0, .slice none 0 0, .slice none 0 0], .int .i64 k]) ∧ Below w.heap.size w w') ∨
 (StrOk g n ∧ ∃ (A1 A2 : Option Addr) (c1 c2 : Nat), e = .returned (.tuple #[.agg #[.int .i64 (strG g n).terms, .int .i64 (strG g n).nons, .int .i64 (strG g n).start, .slice A1 (strG g n).rules.length c1, .slice A2 (fromL g n).length c2], .int .i64 0]) ∧
  (strG g n).rules.length ≤ c1 ∧ c1 ≤ 9223372036854775807 ∧ Els w' (fun b => w.heap.size ≤ b ∧ b < w'.heap.size) (strG g n).rules A1 ∧
  (fromL g n).length ≤ c2 ∧ c2 ≤ 9223372036854775807 ∧ Els w' (fun b => w.heap.size ≤ b ∧ b < w'.heap.size) (fromL g n) A2 ∧ Below w.heap.size w w')
set_option maxRecDepth 100000 in
set_option maxHeartbeats 8000000 in
theorem leftPub_any (g : Gram) (m n : Nat) (A : Option Addr) (c : Nat) (S : Nat → Prop) (w : World) (hgt : g.terms = (m : Int)) (hgn : g.nons = (n : Int)) (hck : checkI g = 0) (hlc : g.rules.length ≤ c) (hc : c ≤ 9223372036854775807) (hA : Els w S g.rules A) (hS : ∀ b, S b → b < w.heap.size) :
  Calls Tryd.prog 32 #[.agg #[.int .i64 g.terms, .int .i64 g.nons, .int .i64 g.start, .slice A g.rules.length c]] w (RetStr g n w) := by
 obtain ⟨gt, gn, gs, rs⟩ := g
 dsimp only at *
 subst hgt; subst hgn
 obtain ⟨w1, hw1⟩ : ∃ w1 : World, w1 = (w.alloc (.cells #[.int .i64 (m : Int), .int .i64 (n : Int), .int .i64 gs, .slice A rs.length c] 24)).alloc (.cells #[.int .i64 0, .int .i64 0, .int .i64 0, .slice none 0 0, .slice none 0 0] 69) := ⟨_, rfl⟩
 have HW1 := Lib.hid hw1
 have hb1 : Below w.heap.size w w1 := by rw [hw1]; exact ((Below.refl _ _).alloc (Nat.le_refl _) _).alloc (by simp) _
 have hG1 : Blk' w1 w.heap.size 24 #[.int .i64 (m : Int), .int .i64 (n : Int), .int .i64 gs, .slice A rs.length c] := by rw [hw1]; exact (Blk'.new w _ _).alloc _
 have hR1 : Blk' w1 (w.heap.size + 1) 69 #[.int .i64 0, .int .i64 0, .int .i64 0, .slice none 0 0, .slice none 0 0] := by rw [hw1]; exact Blk'.new' _ _ _ (by simp)
 have HB1 := Lib.hid hb1
 have HR1 := Lib.hid hR1
 have HA := Lib.hid (hA.below hb1)
 have HS := Lib.hid hS
 have HC := Lib.hid hck
 have a0 : w1.cell? ⟨w.heap.size, 0, none⟩ = some (.int .i64 (m : Int)) := hG1.cell 0
 have a1 : w1.cell? ⟨w.heap.size, 1, none⟩ = some (.int .i64 (n : Int)) := hG1.cell 1
 have a2 : w1.cell? ⟨w.heap.size, 2, none⟩ = some (.int .i64 gs) := hG1.cell 2
 have a3 : w1.cell? ⟨w.heap.size, 3, none⟩ = some (.slice A rs.length c) := hG1.cell 3
 have zG : w.heap.size < w1.heap.size := hG1.lt
 clear hw1 hb1 hG1 hR1 hA hS hck
 go_enter Tryd.func32, Tryd.ntmps32
 go_upto_region 1 with (fail)
 rw [← HW1.out]
 go_wp2_with fail
 refine (leftOf_any ⟨(m : Int), (n : Int), gs, rs⟩ m n A c S w1 rfl rfl HC.out hlc hc HA.out (fun b hb => by have := HS.out b hb; have := HB1.out.size; omega)).mono ?_
 rintro e w2 (⟨k, hbad, rfl, hb2⟩ | ⟨hok, P, gT, A1, A2, c1, c2, rfl, hwP, hP, q11, q12, hE1, q21, q22, hE2, _, _, hb2⟩)
 ·have HBad := Lib.hid hbad
  have HB2 := Lib.hid (bthen HB1.out hb2 HB1.out.size)
  have HR2 := Lib.hid (HR1.out.below hb2 HR1.out.lt)
  have hk0 : (k != 0) = true := by simp [hbad.ne]
  have r0 : w2.cell? ⟨w.heap.size + 1, 0, none⟩ = some (.int .i64 0) := HR2.out.cell 0
  have f0 := HR2.out.frozen 0
  have r1 : w2.cell? ⟨w.heap.size + 1, 1, none⟩ = some (.int .i64 0) := HR2.out.cell 1
  have f1 := HR2.out.frozen 1
  have r2 : w2.cell? ⟨w.heap.size + 1, 2, none⟩ = some (.int .i64 0) := HR2.out.cell 2
  have f2 := HR2.out.frozen 2
  have r3 : w2.cell? ⟨w.heap.size + 1, 3, none⟩ = some (.slice none 0 0) := HR2.out.cell 3
  have f3 := HR2.out.frozen 3
  have r4 : w2.cell? ⟨w.heap.size + 1, 4, none⟩ = some (.slice none 0 0) := HR2.out.cell 4
  have f4 := HR2.out.frozen 4
  have zR2 : w.heap.size + 1 < w2.heap.size := HR2.out.lt
  clear a0 a1 a2 a3 zG hb2 hbad
  go_wp2_with fail
  generalize hwF : World.setCell _ _ _ = wF
  have hRF : Blk' wF (w.heap.size + 1) 69 #[.int .i64 0, .int .i64 0, .int .i64 0, .slice none 0 0, .slice none 0 0] := by rw [← hwF]; exact ((((HR2.out.set_ 0 _).set_ 1 _).set_ 2 _).set_ 3 _).set_ 4 _
  have hkF : Below w.heap.size w wF := by rw [← hwF]; exact ((((HB2.out.setCell (p := ⟨w.heap.size + 1, 0, none⟩) (Nat.le_succ _) _).setCell (p := ⟨w.heap.size + 1, 1, none⟩) (Nat.le_succ _) _).setCell (p := ⟨w.heap.size + 1, 2, none⟩) (Nat.le_succ _) _).setCell (p := ⟨w.heap.size + 1, 3, none⟩) (Nat.le_succ _) _).setCell (p := ⟨w.heap.size + 1, 4, none⟩) (Nat.le_succ _) _
  have u0 : wF.cell? ⟨w.heap.size + 1, 0, none⟩ = some (.int .i64 0) := hRF.cell 0
  have u1 : wF.cell? ⟨w.heap.size + 1, 1, none⟩ = some (.int .i64 0) := hRF.cell 1
  have u2 : wF.cell? ⟨w.heap.size + 1, 2, none⟩ = some (.int .i64 0) := hRF.cell 2
  have u3 : wF.cell? ⟨w.heap.size + 1, 3, none⟩ = some (.slice none 0 0) := hRF.cell 3
  have u4 : wF.cell? ⟨w.heap.size + 1, 4, none⟩ = some (.slice none 0 0) := hRF.cell 4
  clear hwF
  exact bodyPost_ret (v := .tuple #[.agg #[.int .i64 0, .int .i64 0, .int .i64 0, .slice none 0 0, .slice none 0 0], .int .i64 k]) (by simp [results, Tryd.results32, go_sem, u0, u1, u2, u3, u4]) rfl (.inl ⟨k, HBad.out, rfl, hkF⟩)
 ·have HOk := Lib.hid hok
  have HB2 := Lib.hid (bthen HB1.out hb2 HB1.out.size)
  have HR2 := Lib.hid (HR1.out.below hb2 HR1.out.lt)
  have hvs := validG_of hok.chk
  obtain ⟨sg, hsg⟩ : ∃ sg : Gram, sg = strG ⟨(m : Int), (n : Int), gs, rs⟩ n := ⟨_, rfl⟩
  obtain ⟨fs, hfs⟩ : ∃ fs : List Int, fs = fromL ⟨(m : Int), (n : Int), gs, rs⟩ n := ⟨_, rfl⟩
  rw [← hsg] at hP q11 hE1 hvs
  rw [← hfs] at hP q21 hE2
  have HXl : Hid (sg.rules.length ≤ 1000 ∧ ∀ q ∈ sg.rules, q.right.length ≤ 1000) := Lib.hid ⟨by have := hvs.len; omega, fun q hq => by have := (hvs.rules q hq).2.2.1; omega⟩
  have HSG := Lib.hid hsg
  have HFS := Lib.hid hfs
  obtain ⟨st, sn, ss, xs⟩ := sg
  dsimp only at hP q11 hE1 HXl
  have HE1 := Lib.hid hE1
  have HE2 := Lib.hid hE2
  have p4 : w2.cell? ⟨P, 4, none⟩ = some (.int .i64 st) := hP.cell 4
  have p5 : w2.cell? ⟨P, 5, none⟩ = some (.int .i64 sn) := hP.cell 5
  have p6 : w2.cell? ⟨P, 6, none⟩ = some (.int .i64 ss) := hP.cell 6
  have p7 : w2.cell? ⟨P, 7, none⟩ = some (.slice A1 xs.length c1) := hP.cell 7
  have p9 : w2.cell? ⟨P, 9, none⟩ = some (.slice A2 fs.length c2) := hP.cell 9
  have zP : P < w2.heap.size := hP.lt
  have neP : ¬ w.heap.size + 1 = P := by have := HR1.out.lt; omega
  have hz12 := hb2.size
  have hz01 := HB1.out.size
  clear a0 a1 a2 a3 zG hb2 hok hvs hsg hfs hP hE1 hE2 hwP
  go_upto_region 4 with (fail)
  refine wp_region_noPanic ?_
  refine wp_region_held_drew (S := (fun w' => w'.cell? ⟨P, 4, none⟩ = some (.int .i64 st) ∧ w'.cell? ⟨P, 5, none⟩ = some (.int .i64 sn) ∧ w'.cell? ⟨P, 6, none⟩ = some (.int .i64 ss) ∧ w'.cell? ⟨P, 7, none⟩ = some (.slice A1 xs.length c1) ∧ w'.cell? ⟨P, 9, none⟩ = some (.slice A2 fs.length c2))) (by kernel_rfl) ?hs (fun hHeld => ?bs)
  case hs => ((try dsimp only); go_keep)
  refine take_run (i := 0) (v := ?vs0) rfl (by kernel_rfl) (by kernel_rfl) (by kernel_rfl) (fun _ _ _ h => h) (by rfl) ?ys0 (by assumption) ?rs0
  case ys0 => (intro w hSw; (try dsimp only at hSw); go_simp; try with_reducible rfl)
  try simp only [Act.put, List.setIfInBounds_toArray, List.set_cons_zero, List.set_cons_succ]
  refine take_run (i := 1) (v := ?vs1) rfl (by kernel_rfl) (by kernel_rfl) (by kernel_rfl) (fun _ _ _ h => h) (by rfl) ?ys1 (by assumption) ?rs1
  case ys1 => (intro w hSw; (try dsimp only at hSw); go_simp; try with_reducible rfl)
  try simp only [Act.put, List.setIfInBounds_toArray, List.set_cons_zero, List.set_cons_succ]
  refine take_run (i := 2) (v := ?vs2) rfl (by kernel_rfl) (by kernel_rfl) (by kernel_rfl) (fun _ _ _ h => h) (by rfl) ?ys2 (by assumption) ?rs2
  case ys2 => (intro w hSw; (try dsimp only at hSw); go_simp; try with_reducible rfl)
  try simp only [Act.put, List.setIfInBounds_toArray, List.set_cons_zero, List.set_cons_succ]
  refine take_run (i := 3) (v := ?vs3) rfl (by kernel_rfl) (by kernel_rfl) (by kernel_rfl) (fun _ _ _ h => h) (by rfl) ?ys3 (by assumption) ?rs3
  case ys3 => (intro w hSw; (try dsimp only at hSw); go_simp; try with_reducible rfl)
  try simp only [Act.put, List.setIfInBounds_toArray, List.set_cons_zero, List.set_cons_succ]
  refine take_run (i := 5) (v := ?vs5) rfl (by kernel_rfl) (by kernel_rfl) (by kernel_rfl) (fun _ _ _ h => h) (by rfl) ?ys5 (by assumption) ?rs5
  case ys5 => (intro w hSw; (try dsimp only at hSw); go_simp; try with_reducible rfl)
  try simp only [Act.put, List.setIfInBounds_toArray, List.set_cons_zero, List.set_cons_succ]
  refine take_run (i := 6) (v := ?vs6) rfl (by kernel_rfl) (by kernel_rfl) (by kernel_rfl) (fun _ _ _ h => h) (by rfl) ?ys6 (by assumption) ?rs6
  case ys6 => (intro w hSw; (try dsimp only at hSw); go_simp; try with_reducible rfl)
  try simp only [Act.put, List.setIfInBounds_toArray, List.set_cons_zero, List.set_cons_succ]
  refine take_run (i := 7) (v := ?vs7) rfl (by kernel_rfl) (by kernel_rfl) (by kernel_rfl) (fun _ _ _ h => h) (by rfl) ?ys7 (by assumption) ?rs7
  case ys7 => (intro w hSw; (try dsimp only at hSw); go_simp; try with_reducible rfl)
  try simp only [Act.put, List.setIfInBounds_toArray, List.set_cons_zero, List.set_cons_succ]
  refine take_run (i := 8) (v := ?vs8) rfl (by kernel_rfl) (by kernel_rfl) (by kernel_rfl) (fun _ _ _ h => h) (by rfl) ?ys8 (by assumption) ?rs8
  case ys8 => (intro w hSw; (try dsimp only at hSw); go_simp; try with_reducible rfl)
  try simp only [Act.put, List.setIfInBounds_toArray, List.set_cons_zero, List.set_cons_succ]
  refine take_call (i := 4) rfl (by kernel_rfl) (by rfl) (fun Kq hK => ?_)
  go_simp
  go_at_call 53
  refine (copyG_any st sn ss xs A1 c1 _ w2.drew HXl.out.1 HXl.out.2 q11 q12 (HE1.out.below (Below.refl _ _).drew) (fun b hb => hb.2)).mono ?_
  rintro e w3 ⟨v, rfl, hown, hb3⟩
  obtain ⟨A3, c3, rfl, q31, q32, _⟩ := hown.form
  have HB3 := Lib.hid (bundrew hb3)
  have hb9 := HB3.out
  have n4 := (hb9.cell (p := ⟨P, 4, none⟩) zP).trans p4
  have n5 := (hb9.cell (p := ⟨P, 5, none⟩) zP).trans p5
  have n6 := (hb9.cell (p := ⟨P, 6, none⟩) zP).trans p6
  have n7 := (hb9.cell (p := ⟨P, 7, none⟩) zP).trans p7
  have n9 := (hb9.cell (p := ⟨P, 9, none⟩) zP).trans p9
  have HE3 := Lib.hid hown.vl.els.2.2.2
  have HF3 := Lib.hid (HE2.out.below hb9)
  have HR3 := Lib.hid (HR2.out.below hb9 HR2.out.lt)
  have r0 : w3.cell? ⟨w.heap.size + 1, 0, none⟩ = some (.int .i64 0) := HR3.out.cell 0
  have r1 : w3.cell? ⟨w.heap.size + 1, 1, none⟩ = some (.int .i64 0) := HR3.out.cell 1
  have r2 : w3.cell? ⟨w.heap.size + 1, 2, none⟩ = some (.int .i64 0) := HR3.out.cell 2
  have r3 : w3.cell? ⟨w.heap.size + 1, 3, none⟩ = some (.slice none 0 0) := HR3.out.cell 3
  have r4 : w3.cell? ⟨w.heap.size + 1, 4, none⟩ = some (.slice none 0 0) := HR3.out.cell 4
  have f0 := HR3.out.frozen 0
  have f1 := HR3.out.frozen 1
  have f2 := HR3.out.frozen 2
  have f3 := HR3.out.frozen 3
  have f4 := HR3.out.frozen 4
  have zR3 : w.heap.size + 1 < w3.heap.size := HR3.out.lt
  have HQ3 := Lib.hid (And.intro q31 q32)
  clear hown hb3 hb9 q31 q32
  refine hK.out _ _ ?hs4 (fun hHeld => ?rs4)
  case hs4 => ((try dsimp only); go_keep)
  clear hK Kq
  try simp only [Act.put, List.setIfInBounds_toArray, List.set_cons_zero, List.set_cons_succ]
  refine take_run (i := 9) (v := ?vs9) rfl (by kernel_rfl) (by kernel_rfl) (by kernel_rfl) (fun _ _ _ h => h) (by rfl) ?ys9 (by assumption) ?rs9
  case ys9 => (intro w hSw; (try dsimp only at hSw); go_simp; try with_reducible rfl)
  try simp only [Act.put, List.setIfInBounds_toArray, List.set_cons_zero, List.set_cons_succ]
  refine take_call (i := 10) rfl (by kernel_rfl) (by rfl) (fun Kq hK => ?_)
  go_simp
  refine hK.out _ _ ?hs10 (fun hHeld => ?rs10)
  case hs10 => ((try dsimp only); go_keep)
  clear hK Kq
  try simp only [Act.put, List.setIfInBounds_toArray, List.set_cons_zero, List.set_cons_succ]
  refine take_run (i := 11) (v := ?vs11) rfl (by kernel_rfl) (by kernel_rfl) (by kernel_rfl) (fun _ _ _ h => h) (by rfl) ?ys11 (by assumption) ?rs11
  case ys11 => (intro w hSw; (try dsimp only at hSw); go_simp; try with_reducible rfl)
  try simp only [Act.put, List.setIfInBounds_toArray, List.set_cons_zero, List.set_cons_succ]
  refine wpAnyH_done (by kernel_rfl) ?_ _
  refine NoPanic.normal ?_
  go_wp2_with fail
  generalize hwF : World.setCell _ _ _ = wF
  have hRF : Blk' wF (w.heap.size + 1) 69 #[.int .i64 st, .int .i64 sn, .int .i64 ss, .slice A3 xs.length c3, .slice A2 fs.length c2] := by rw [← hwF]; exact ((((HR3.out.set_ 0 _).set_ 1 _).set_ 2 _).set_ 3 _).set_ 4 _
  have hK : Kept (fun b => b = w.heap.size + 1) w3 wF := by rw [← hwF]; exact (((((Kept.refl (fun b => b = w.heap.size + 1) w3).setCell (p := ⟨w.heap.size + 1, 0, none⟩) (.inl rfl) _).setCell (p := ⟨w.heap.size + 1, 1, none⟩) (.inl rfl) _).setCell (p := ⟨w.heap.size + 1, 2, none⟩) (.inl rfl) _).setCell (p := ⟨w.heap.size + 1, 3, none⟩) (.inl rfl) _).setCell (p := ⟨w.heap.size + 1, 4, none⟩) (.inl rfl) _
  have hbF : Below w.heap.size w wF := (bthen HB2.out HB3.out HB2.out.size).trans (hK.to_below (fun b (hb : b = w.heap.size + 1) => by omega) (by have := HB2.out.size; have := HB3.out.size; omega))
  have hz := HB3.out.size
  have hz2 := HR1.out.lt
  have hEF := (HE3.out.kept hK (fun b hb (h : b = w.heap.size + 1) => by rcases hb.1 with h1 | h1; exact h1.elim; have h1 : w2.heap.size ≤ b := h1; omega)).keep (S' := fun b => w.heap.size ≤ b ∧ b < wF.heap.size) (fun _ _ _ => rfl) (fun b hb => ⟨by rcases hb.1 with h1 | h1; exact h1.elim; have h1 : w2.heap.size ≤ b := h1; omega, Nat.lt_of_lt_of_le hb.2 hK.size⟩)
  have hFF := (HF3.out.kept hK (fun b hb (h : b = w.heap.size + 1) => by have := hb.1; omega)).keep (S' := fun b => w.heap.size ≤ b ∧ b < wF.heap.size) (fun _ _ _ => rfl) (fun b hb => ⟨by have := hb.1; omega, by have := hb.2; have := hK.size; omega⟩)
  have u0 : wF.cell? ⟨w.heap.size + 1, 0, none⟩ = some (.int .i64 st) := hRF.cell 0
  have u1 : wF.cell? ⟨w.heap.size + 1, 1, none⟩ = some (.int .i64 sn) := hRF.cell 1
  have u2 : wF.cell? ⟨w.heap.size + 1, 2, none⟩ = some (.int .i64 ss) := hRF.cell 2
  have u3 : wF.cell? ⟨w.heap.size + 1, 3, none⟩ = some (.slice A3 xs.length c3) := hRF.cell 3
  have u4 : wF.cell? ⟨w.heap.size + 1, 4, none⟩ = some (.slice A2 fs.length c2) := hRF.cell 4
  clear hwF
  have hf : RetStr ⟨(m : Int), (n : Int), gs, rs⟩ n w (.returned (.tuple #[.agg #[.int .i64 st, .int .i64 sn, .int .i64 ss, .slice A3 xs.length c3, .slice A2 fs.length c2], .int .i64 0])) wF := by
   refine .inr ⟨HOk.out, A3, A2, c3, c2, ?_, ?_⟩
   ·rw [← HSG.out, ← HFS.out]
   ·rw [← HSG.out, ← HFS.out]
    exact ⟨HQ3.out.1, HQ3.out.2, hEF, q21, q22, hFF, hbF⟩
  exact bodyPost_ret (v := .tuple #[.agg #[.int .i64 st, .int .i64 sn, .int .i64 ss, .slice A3 xs.length c3, .slice A2 fs.length c2], .int .i64 0]) (by simp [results, Tryd.results32, go_sem, u0, u1, u2, u3, u4]) rfl hf
end Go.Proofs.YtjdojogjogenkaaDoor
