/- Contract: parlkeep2.factors: it returns true. -/
import Derived.Test.YtjdojogjogenkaaQFacPub
import Derived.Test.YtjdojogjogenkaaQw1
namespace Go.Proofs.Ytjdojogjogenkaa
open Go.RowKit
set_option linter.unusedVariables false
def chF : Gram := ⟨2, 1, 0, [⟨0, [⟨true, 0⟩, ⟨true, 1⟩]⟩, ⟨0, [⟨true, 0⟩]⟩]⟩
theorem chF_chk : checkI chF = 0 := by decide +kernel
theorem chF_firsts : firstsL 0 chF.rules = [⟨true, 0⟩, ⟨true, 0⟩] := by decide +kernel
theorem chF_at {m : Nat} {x : Sym} (h : NextAt chF m x) : m = 0 ∧ x = ⟨true, 0⟩ := by
 have h1 := h.lt
 have hm : m = 0 := by have : chF.nons = 1 := rfl; omega
 subst hm
 refine ⟨rfl, ?_⟩
 have h2 := h.mem
 rw [show ((0 : Nat) : Int) = 0 from rfl, chF_firsts] at h2
 simpa using h2
theorem chF_next : nextG chF (placesN chF 0 ⟨true, 0⟩) = ⟨2, 2, 0, [⟨0, [⟨true, 0⟩, ⟨false, 1⟩]⟩, ⟨1, [⟨true, 1⟩]⟩, ⟨1, []⟩]⟩ := by decide +kernel
theorem chF_no {m : Nat} {x : Sym} : ¬ NextAt (nextG chF (placesN chF 0 ⟨true, 0⟩)) m x := by
 intro h
 have h1 := h.lt
 have h2 := h.two
 rw [chF_next] at h1 h2
 have hm : m = 0 ∨ m = 1 := by dsimp only at h1; omega
 rcases hm with rfl | rfl
 ·rw [show firstsL ((0 : Nat) : Int) _ = [(⟨true, 0⟩ : Sym)] from by decide +kernel] at h2
  have := List.count_le_length (a := x) (l := [(⟨true, 0⟩ : Sym)])
  simp only [List.length_singleton] at this
  omega
 ·rw [show firstsL ((1 : Nat) : Int) _ = [(⟨true, 1⟩ : Sym)] from by decide +kernel] at h2
  have := List.count_le_length (a := x) (l := [(⟨true, 1⟩ : Sym)])
  simp only [List.length_singleton] at this
  omega
theorem chF_run {ss : List StepR} {h : Gram} (hr : FacRun chF ss h) : h = chF ∨ h = nextG chF (placesN chF 0 ⟨true, 0⟩) := by
 induction hr with
 | nil => exact .inl rfl
 | snoc ss h m x _ hn ha hc ih =>
  rcases ih with rfl | rfl
  ·obtain ⟨rfl, rfl⟩ := chF_at ha
   exact .inr rfl
  ·exact absurd ha chF_no
theorem chF_bad {k : Int} (h : FacBad chF k) : False := by
 cases h with
 | large ss h m x hr hn ha =>
  rcases chF_run hr with rfl | rfl
  ·exact absurd hn (by decide)
  ·exact chF_no ha
 | chk ss h m x hr hn ha hc =>
  rcases chF_run hr with rfl | rfl
  ·obtain ⟨rfl, rfl⟩ := chF_at ha
   apply hc
   show checkI (nextG chF (placesN chF 0 ⟨true, 0⟩)) = 0
   rw [chF_next]
   decide +kernel
  ·exact chF_no ha
theorem chF_end {ss : List StepR} {h : Gram} (hr : FacRun chF ss h) (hn : NoNext h) : h.nons = 2 ∧ h.rules.length = 3 := by
 rcases chF_run hr with rfl | rfl
 ·have := hn 0 (by decide)
  rw [show ((0 : Nat) : Int) = 0 from rfl, chF_firsts] at this
  simp at this
 ·rw [chF_next]
  exact ⟨rfl, rfl⟩
set_option maxRecDepth 100000 in
set_option maxHeartbeats 4000000 in
theorem factors_any (w : World) : Calls Try.prog 8 #[] w fun e w' => e = .returned (.bool true) ∧ Below w.heap.size w w' := by
 have HBw : Hid (Below w.heap.size w w) := Lib.hid (Below.refl _ _)
 go_enter Try.func8, Try.ntmps8
 go_wp2_with fail
 refine (keepT_any 0 _).mono ?_
 rintro e w1 ⟨rfl, rfl⟩
 go_wp2_with fail
 refine (keepT_any 1 _).mono ?_
 rintro e w1 ⟨rfl, rfl⟩
 go_wp2_with fail
 refine (keepT_any 0 _).mono ?_
 rintro e w1 ⟨rfl, rfl⟩
 obtain ⟨u1, hwu1⟩ : ∃ wq : World, wq = w.alloc (.cells #[.bool true, .int .i64 0] 35) := ⟨_, rfl⟩
 have HWu1 := Lib.hid hwu1
 have hbu1 : Below w.heap.size w u1 := by rw [hwu1]; exact (Below.refl _ _).alloc (Nat.le_refl _) _
 have Hau1 : Hid (Blk' u1 (w.heap.size) 35 #[.bool true, .int .i64 0]) := Lib.hid (by rw [hwu1]; exact Blk'.new' _ _ _ (by rfl))
 have Zu1 : Hid (u1.heap.size = w.heap.size + 1) := Lib.hid (by rw [hwu1]; simp)
 have HBu1 := Lib.hid (bthen HBw.out hbu1 HBw.out.size)
 have zwu1 : w.heap.size ≤ u1.heap.size := hbu1.size
 clear hwu1 hbu1
 obtain ⟨u2, hwu2⟩ : ∃ wq : World, wq = u1.alloc (.cells #[.bool true, .int .i64 1] 35) := ⟨_, rfl⟩
 have HWu2 := Lib.hid hwu2
 have hbu2 : Below u1.heap.size u1 u2 := by rw [hwu2]; exact (Below.refl _ _).alloc (Nat.le_refl _) _
 have Hbu2 : Hid (Blk' u2 (w.heap.size + 1) 35 #[.bool true, .int .i64 1]) := Lib.hid (by rw [hwu2]; exact Blk'.new' _ _ _ (by have := Zu1.out; omega))
 have Zu2 : Hid (u2.heap.size = u1.heap.size + 1) := Lib.hid (by rw [hwu2]; simp)
 have HBu2 := Lib.hid (bthen HBu1.out hbu2 HBu1.out.size)
 have zu1u2 : u1.heap.size ≤ u2.heap.size := hbu2.size
 have Hau2 := Lib.hid (Hau1.out.below hbu2 Hau1.out.lt)
 clear Hau1
 clear hwu2 hbu2
 obtain ⟨u3, hwu3⟩ : ∃ wq : World, wq = u2.alloc (.cells #[.bool true, .int .i64 0, .bool true, .int .i64 1] 35) := ⟨_, rfl⟩
 have HWu3 := Lib.hid hwu3
 have hbu3 : Below u2.heap.size u2 u3 := by rw [hwu3]; exact (Below.refl _ _).alloc (Nat.le_refl _) _
 have HSu3 : Hid (Blk' u3 (w.heap.size + 1 + 1) 35 #[.bool true, .int .i64 0, .bool true, .int .i64 1]) := Lib.hid (by rw [hwu3]; exact Blk'.new' _ _ _ (by have := Zu1.out; have := Zu2.out; omega))
 have Zu3 : Hid (u3.heap.size = u2.heap.size + 1) := Lib.hid (by rw [hwu3]; simp)
 have HBu3 := Lib.hid (bthen HBu2.out hbu3 HBu2.out.size)
 have zu2u3 : u2.heap.size ≤ u3.heap.size := hbu3.size
 have Hau3 := Lib.hid (Hau2.out.below hbu3 Hau2.out.lt)
 have Hbu3 := Lib.hid (Hbu2.out.below hbu3 Hbu2.out.lt)
 clear Hau2 Hbu2
 clear hwu3 hbu3
 obtain ⟨u4, hwu4⟩ : ∃ wq : World, wq = u3.alloc (.cells #[.bool true, .int .i64 0] 35) := ⟨_, rfl⟩
 have HWu4 := Lib.hid hwu4
 have hbu4 : Below u3.heap.size u3 u4 := by rw [hwu4]; exact (Below.refl _ _).alloc (Nat.le_refl _) _
 have Hcu4 : Hid (Blk' u4 (w.heap.size + 1 + 1 + 1) 35 #[.bool true, .int .i64 0]) := Lib.hid (by rw [hwu4]; exact Blk'.new' _ _ _ (by have := Zu1.out; have := Zu2.out; have := Zu3.out; omega))
 have Zu4 : Hid (u4.heap.size = u3.heap.size + 1) := Lib.hid (by rw [hwu4]; simp)
 have HBu4 := Lib.hid (bthen HBu3.out hbu4 HBu3.out.size)
 have zu3u4 : u3.heap.size ≤ u4.heap.size := hbu4.size
 have Hau4 := Lib.hid (Hau3.out.below hbu4 Hau3.out.lt)
 have Hbu4 := Lib.hid (Hbu3.out.below hbu4 Hbu3.out.lt)
 have HSu4 := Lib.hid (HSu3.out.below hbu4 HSu3.out.lt)
 clear Hau3 Hbu3 HSu3
 clear hwu4 hbu4
 obtain ⟨u5, hwu5⟩ : ∃ wq : World, wq = u4.alloc (.cells #[.bool true, .int .i64 0] 35) := ⟨_, rfl⟩
 have HWu5 := Lib.hid hwu5
 have hbu5 : Below u4.heap.size u4 u5 := by rw [hwu5]; exact (Below.refl _ _).alloc (Nat.le_refl _) _
 have HQu5 : Hid (Blk' u5 (w.heap.size + 1 + 1 + 1 + 1) 35 #[.bool true, .int .i64 0]) := Lib.hid (by rw [hwu5]; exact Blk'.new' _ _ _ (by have := Zu1.out; have := Zu2.out; have := Zu3.out; have := Zu4.out; omega))
 have Zu5 : Hid (u5.heap.size = u4.heap.size + 1) := Lib.hid (by rw [hwu5]; simp)
 have HBu5 := Lib.hid (bthen HBu4.out hbu5 HBu4.out.size)
 have zu4u5 : u4.heap.size ≤ u5.heap.size := hbu5.size
 have Hau5 := Lib.hid (Hau4.out.below hbu5 Hau4.out.lt)
 have Hbu5 := Lib.hid (Hbu4.out.below hbu5 Hbu4.out.lt)
 have HSu5 := Lib.hid (HSu4.out.below hbu5 HSu4.out.lt)
 have Hcu5 := Lib.hid (Hcu4.out.below hbu5 Hcu4.out.lt)
 clear Hau4 Hbu4 HSu4 Hcu4
 clear hwu5 hbu5
 obtain ⟨u6, hwu6⟩ : ∃ wq : World, wq = u5.alloc (.cells #[.int .i64 0, .slice (some ⟨w.heap.size + 1 + 1, 0, none⟩) 2 2, .int .i64 0, .slice (some ⟨w.heap.size + 1 + 1 + 1 + 1, 0, none⟩) 1 1] 33) := ⟨_, rfl⟩
 have HWu6 := Lib.hid hwu6
 have hbu6 : Below u5.heap.size u5 u6 := by rw [hwu6]; exact (Below.refl _ _).alloc (Nat.le_refl _) _
 have HRu6 : Hid (Blk' u6 (w.heap.size + 1 + 1 + 1 + 1 + 1) 33 #[.int .i64 0, .slice (some ⟨w.heap.size + 1 + 1, 0, none⟩) 2 2, .int .i64 0, .slice (some ⟨w.heap.size + 1 + 1 + 1 + 1, 0, none⟩) 1 1]) := Lib.hid (by rw [hwu6]; exact Blk'.new' _ _ _ (by have := Zu1.out; have := Zu2.out; have := Zu3.out; have := Zu4.out; have := Zu5.out; omega))
 have Zu6 : Hid (u6.heap.size = u5.heap.size + 1) := Lib.hid (by rw [hwu6]; simp)
 have HBu6 := Lib.hid (bthen HBu5.out hbu6 HBu5.out.size)
 have zu5u6 : u5.heap.size ≤ u6.heap.size := hbu6.size
 have Hau6 := Lib.hid (Hau5.out.below hbu6 Hau5.out.lt)
 have Hbu6 := Lib.hid (Hbu5.out.below hbu6 Hbu5.out.lt)
 have HSu6 := Lib.hid (HSu5.out.below hbu6 HSu5.out.lt)
 have Hcu6 := Lib.hid (Hcu5.out.below hbu6 Hcu5.out.lt)
 have HQu6 := Lib.hid (HQu5.out.below hbu6 HQu5.out.lt)
 clear Hau5 Hbu5 HSu5 Hcu5 HQu5
 clear hwu6 hbu6
 obtain ⟨u7, hwu7⟩ : ∃ wq : World, wq = u6.alloc (.cells #[.int .i64 2, .int .i64 1, .int .i64 0, .slice (some ⟨w.heap.size + 1 + 1 + 1 + 1 + 1, 0, none⟩) 2 2] 25) := ⟨_, rfl⟩
 have HWu7 := Lib.hid hwu7
 have hbu7 : Below u6.heap.size u6 u7 := by rw [hwu7]; exact (Below.refl _ _).alloc (Nat.le_refl _) _
 have HGu7 : Hid (Blk' u7 (w.heap.size + 1 + 1 + 1 + 1 + 1 + 1) 25 #[.int .i64 2, .int .i64 1, .int .i64 0, .slice (some ⟨w.heap.size + 1 + 1 + 1 + 1 + 1, 0, none⟩) 2 2]) := Lib.hid (by rw [hwu7]; exact Blk'.new' _ _ _ (by have := Zu1.out; have := Zu2.out; have := Zu3.out; have := Zu4.out; have := Zu5.out; have := Zu6.out; omega))
 have Zu7 : Hid (u7.heap.size = u6.heap.size + 1) := Lib.hid (by rw [hwu7]; simp)
 have HBu7 := Lib.hid (bthen HBu6.out hbu7 HBu6.out.size)
 have zu6u7 : u6.heap.size ≤ u7.heap.size := hbu7.size
 have Hau7 := Lib.hid (Hau6.out.below hbu7 Hau6.out.lt)
 have Hbu7 := Lib.hid (Hbu6.out.below hbu7 Hbu6.out.lt)
 have HSu7 := Lib.hid (HSu6.out.below hbu7 HSu6.out.lt)
 have Hcu7 := Lib.hid (Hcu6.out.below hbu7 Hcu6.out.lt)
 have HQu7 := Lib.hid (HQu6.out.below hbu7 HQu6.out.lt)
 have HRu7 := Lib.hid (HRu6.out.below hbu7 HRu6.out.lt)
 clear Hau6 Hbu6 HSu6 Hcu6 HQu6 HRu6
 clear hwu7 hbu7
 go_upto_region 2 with (fail)
 rw [← HWu1.out]
 rw [← HWu2.out]
 rw [← HWu3.out]
 rw [← HWu4.out]
 rw [← HWu5.out]
 rw [← HWu6.out]
 rw [← HWu7.out]
 have i0 : I64 0 := ⟨by omega, by omega⟩
 have i1 : I64 1 := ⟨by omega, by omega⟩
 have HEl : Hid (Els u7 (fun b => b < u7.heap.size) chF.rules (some ⟨w.heap.size + 1 + 1 + 1 + 1 + 1, 0, none⟩)) := Lib.hid (by
  refine els_of_blk [[.int .i64 0, .slice (some ⟨w.heap.size + 1 + 1, 0, none⟩) 2 2], [.int .i64 0, .slice (some ⟨w.heap.size + 1 + 1 + 1 + 1, 0, none⟩) 1 1]] HRu7.out rfl rfl (rd_two ⟨_, rfl, i0, Vl.of_slice rfl (by simp) (by omega) ?_⟩ ⟨_, rfl, i0, Vl.of_slice rfl (by simp) (by omega) ?_⟩) HRu7.out.lt
  ·exact els_of_blk [[.bool true, .int .i64 0], [.bool true, .int .i64 1]] HSu7.out rfl rfl (rd_two ⟨rfl, i0⟩ ⟨rfl, i1⟩) HSu7.out.lt
  ·exact els_of_blk [[.bool true, .int .i64 0]] HQu7.out rfl rfl (rd_one ⟨rfl, i0⟩) HQu7.out.lt)
 clear i0 i1
 have cG0u7 : u7.cell? ⟨w.heap.size + 1 + 1 + 1 + 1 + 1 + 1, 0, none⟩ = some (.int .i64 2) := HGu7.out.cell 0
 have cG1u7 : u7.cell? ⟨w.heap.size + 1 + 1 + 1 + 1 + 1 + 1, 1, none⟩ = some (.int .i64 1) := HGu7.out.cell 1
 have cG2u7 : u7.cell? ⟨w.heap.size + 1 + 1 + 1 + 1 + 1 + 1, 2, none⟩ = some (.int .i64 0) := HGu7.out.cell 2
 have cG3u7 : u7.cell? ⟨w.heap.size + 1 + 1 + 1 + 1 + 1 + 1, 3, none⟩ = some (.slice (some ⟨w.heap.size + 1 + 1 + 1 + 1 + 1, 0, none⟩) 2 2) := HGu7.out.cell 3
 have czGu7 : w.heap.size + 1 + 1 + 1 + 1 + 1 + 1 < u7.heap.size := HGu7.out.lt
 go_wp2_with fail
 clear cG0u7 cG1u7 cG2u7 cG3u7 czGu7
 refine (facPub_any chF 1 (some ⟨w.heap.size + 1 + 1 + 1 + 1 + 1, 0, none⟩) 2 (fun b => b < u7.heap.size) u7 rfl chF_chk (by decide) (by omega) HEl.out (fun b hb => hb)).mono ?_
 rintro e w3 (⟨k, hbad, rfl, hb3⟩ | ⟨ss, h, A1, c1, hrun, hch, hno, rfl, hl1, hc1, hE, hb3⟩)
 ·exact (chF_bad hbad).elim
 obtain ⟨e1, e2⟩ := chF_end hrun hno
 obtain ⟨ht, hn_, hs_, hrs⟩ := h
 dsimp only at *
 subst e1
 rw [e2]
 clear hrun hch hno hl1 hc1 hE e2
 have HB3 := Lib.hid (bthen HBu7.out hb3 HBu7.out.size)
 clear hb3
 go_wp2
 go_ret
 exact ⟨rfl, HB3.out.alloc HB3.out.size _⟩
end Go.Proofs.Ytjdojogjogenkaa
