/- Contract: core.Count, of a forest whose root is a node. -/
import Derived.Test.YtjdojogjogenkaaDoorQCount1
import Derived.Laws.EntriesVeiled
namespace Go.Proofs.YtjdojogjogenkaaDoor
open Go.RowKit
set_option linter.unusedVariables false
def RetCn (F : List FNode) (r : Nat) (w : World) (e : Ending) (w' : World) : Prop :=
 ∃ x : Int, e = .returned (.int .i64 x) ∧ (x = -1 ∧ CycAt F r ∨ ∃ k : Nat, x = (k : Int) ∧ Cn F r k) ∧ Below w.heap.size w w'
theorem countNone_any (A : Option Addr) (c n : Nat) (w : World) :
  Calls Tryd.prog 56 #[.agg #[.slice A n c, .int .i64 (-1)]] w fun e w' => e = .returned (.int .i64 0) ∧ Below w.heap.size w w' := by
 have hb : ∀ o : Obj, Below w.heap.size w (w.alloc o) := fun o => (Below.refl _ _).alloc (Nat.le_refl _) _
 have HB := Lib.hid hb
 clear hb
 go_enter Tryd.func56, Tryd.ntmps56
 go_wp2
 go_ret
 exact ⟨rfl, HB.out _⟩
set_option maxRecDepth 100000 in
set_option maxHeartbeats 4000000 in
theorem count_any (F : List FNode) (A : Option Addr) (c r : Nat) (Sf : Nat → Prop) (w : World) (hN : F.length ≤ 1000000) (hr : r < F.length)
  (hkl : ∀ nd ∈ F, nd.packs.length ≤ 100000000 ∧ ∀ p ∈ nd.packs, p.kids.length ≤ 1000 ∧ ∀ k ∈ p.kids, 0 ≤ k ∧ k.toNat < F.length) (hA : Els w Sf F A) (hSf : ∀ b, Sf b → b < w.heap.size) :
  Calls Tryd.prog 56 #[.agg #[.slice A F.length c, .int .i64 (r : Int)]] w (RetCn F r w) := by
 have HKl := Lib.hid hkl
 have HSf := Lib.hid hSf
 have hmk : ∀ W, (Instr.makeSlice 33 (.int .i64 (F.length : Int)) (.int .i64 (F.length : Int))).run Tryd.prog W = .ok (.slice (some ⟨W.heap.size, 0, none⟩) F.length F.length) (W.alloc (.cells (icells (List.replicate F.length 0)) 3)) := mkInts F.length hN
 obtain ⟨FB, hFB⟩ : ∃ b, b = w.heap.size := ⟨_, rfl⟩
 obtain ⟨gC, hgC⟩ : ∃ b, b = w.heap.size + 1 := ⟨_, rfl⟩
 obtain ⟨CB, hCB⟩ : ∃ b, b = w.heap.size + 1 + 1 := ⟨_, rfl⟩
 obtain ⟨gS, hgS⟩ : ∃ b, b = w.heap.size + 1 + 1 + 1 := ⟨_, rfl⟩
 obtain ⟨SB, hSB⟩ : ∃ b, b = w.heap.size + 1 + 1 + 1 + 1 := ⟨_, rfl⟩
 obtain ⟨VB, hVB⟩ : ∃ b, b = w.heap.size + 1 + 1 + 1 + 1 + 1 := ⟨_, rfl⟩
 obtain ⟨w1, hw1⟩ : ∃ w1 : World, w1 = (((((w.alloc (.cells #[.slice A F.length c, .int .i64 (r : Int)] 104)).alloc (.cells (icells (List.replicate F.length 0)) 3)).alloc (.cells #[.slice (some ⟨gC, 0, none⟩) F.length F.length] 33)).alloc (.cells (icells (List.replicate F.length 0)) 3)).alloc (.cells #[.slice (some ⟨gS, 0, none⟩) F.length F.length] 33)).alloc (.cells #[.func (.func 97) #[] #[.pointer (some ⟨SB, 0, none⟩), .pointer (some ⟨FB, 0, none⟩), .pointer (some ⟨CB, 0, none⟩), .pointer (some ⟨VB, 0, none⟩)]] 150) := ⟨_, rfl⟩
 have HW1 := Lib.hid hw1
 have hb1 : Below w.heap.size w w1 := by rw [hw1]; exact ((((((Below.refl _ _).alloc (Nat.le_refl _) _).alloc (by simp) _).alloc (by simp; omega) _).alloc (by simp; omega) _).alloc (by simp; omega) _).alloc (by simp; omega) _
 have HC : Hid (CtS SB FB CB VB gS gC F A c (r : Int) Sf (List.replicate F.length 0) (List.replicate F.length 0) w1) := Lib.hid (by
  refine ⟨?_, ?_, ?_, ?_, ?_, ?_, hA.below hb1, fun b hb h => ?_, by omega⟩
  ·rw [hw1]; exact (Blk'.new' _ _ _ (by rw [hSB]; simp)).alloc _
  ·rw [hw1]; exact (((((Blk'.new' _ _ _ (by rw [hFB])).alloc _).alloc _).alloc _).alloc _).alloc _
  ·rw [hw1]; exact (((Blk'.new' _ _ _ (by rw [hCB]; simp)).alloc _).alloc _).alloc _
  ·rw [hw1]; exact Blk'.new' _ _ _ (by rw [hVB]; simp)
  ·rw [hw1]; exact ((Blk'.new' _ _ _ (by rw [hgS]; simp)).alloc _).alloc _
  ·rw [hw1]; exact ((((Blk'.new' _ _ _ (by rw [hgC]; simp)).alloc _).alloc _).alloc _).alloc _
  ·rcases hb with hb | hb | hb | hb | hb
   ·omega
   ·omega
   ·omega
   ·omega
   ·have := hSf b hb; omega)
 have HZ : Hid (FB = w.heap.size ∧ gC = w.heap.size + 1 ∧ gS = w.heap.size + 3) := Lib.hid ⟨hFB, hgC, hgS⟩
 have HB1 := Lib.hid hb1
 have hr0 : (0 : Int) ≤ (r : Int) := by omega
 have hr1 : ¬ (r : Int) < 0 := by omega
 have hr9 : (r : Int) < (F.length : Int) := by omega
 clear hkl hA hSf hw1 hb1
 go_enter Tryd.func56, Tryd.ntmps56
 go_upto_region 7 with (fail)
 rw [← hVB, ← hSB, ← hgS, ← hCB, ← hgC, ← hFB, ← HW1.out]
 clear hmk hFB hgC hCB hgS hSB hVB HW1
 have v0 : w1.cell? ⟨VB, 0, none⟩ = some (.func (.func 97) #[] #[.pointer (some ⟨SB, 0, none⟩), .pointer (some ⟨FB, 0, none⟩), .pointer (some ⟨CB, 0, none⟩), .pointer (some ⟨VB, 0, none⟩)]) := HC.out.vb.cell 0
 have zV : VB < w1.heap.size := HC.out.vb.lt
 have f1 : w1.cell? ⟨FB, 1, none⟩ = some (.int .i64 (r : Int)) := HC.out.fb.cell 1
 have zF : FB < w1.heap.size := HC.out.fb.lt
 go_wp2_with fail
 refine (count1_any SB FB CB VB gS gC F A c (r : Int) Sf hN HKl.out _ _ _ r w1 rfl (StI.init F) hr (fun u hu h => by
  have e : gd (List.replicate F.length 0) u = 0 := by
   unfold gd
   rw [List.getD_eq_getElem?_getD, List.getElem?_replicate]
   split <;> rfl
  rw [e] at h; cases h) HC.out).mono ?_
 rintro e w2 (⟨rfl, st, cn, hmv, hd, hC2, hK2⟩ | ⟨rfl, hcy, hK2⟩)
 ·have HCn : Hid (∃ k : Nat, gd cn r = (k : Int) ∧ Cn F r k) := Lib.hid (by
   rcases (hmv.ok.at_ r hr).1 with h | h | h
   ·omega
   ·omega
   ·exact ⟨(gd cn r).toNat, by have := (hmv.ok.at_ r hr).2.1; omega, h.2⟩)
  have HC2 := Lib.hid hC2
  have HK2 := Lib.hid hK2
  have c0 : w2.cell? ⟨CB, 0, none⟩ = some (.slice (some ⟨gC, 0, none⟩) F.length F.length) := hC2.cb.cell 0
  have zC : CB < w2.heap.size := hC2.cb.lt
  have ck : w2.cell? ⟨gC, r, none⟩ = some (.int .i64 (gd cn r)) := hC2.cnc (by rw [hmv.ok.cl]; exact hr)
  have zg : gC < w2.heap.size := hC2.cr.lt
  have f1b : w2.cell? ⟨FB, 1, none⟩ = some (.int .i64 (r : Int)) := hC2.fb.cell 1
  have zF2 : FB < w2.heap.size := hC2.fb.lt
  clear hmv hd hC2 hK2 v0 zV f1 zF
  go_wp2
  go_ret
  obtain ⟨k, h1, h2⟩ := HCn.out
  exact ⟨gd cn r, rfl, .inr ⟨k, h1, h2⟩, HB1.out.trans (HK2.out.to_below (B := w.heap.size) (fun b hb => by have := HZ.out; omega) HB1.out.size)⟩
 ·have HCy := Lib.hid hcy
  have HK2 := Lib.hid hK2
  clear hcy hK2 v0 zV f1 zF
  go_wp2
  go_ret
  exact ⟨-1, rfl, .inl ⟨rfl, HCy.out⟩, HB1.out.trans (HK2.out.to_below (B := w.heap.size) (fun b hb => by have := HZ.out; omega) HB1.out.size)⟩
end Go.Proofs.YtjdojogjogenkaaDoor
