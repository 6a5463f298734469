/- The walk of the law ClosedPut: a word of the grammar, a terminal replaced by a word of the other one, is accepted. -/
import Derived.Test.YtlgchgpplfhneaaDoorClosedPut
import Derived.Test.YtlgchgpplfhneaaDoorPutChk
import Derived.Test.YtlgchgpplfhneaaDoorSameK
import Derived.Test.YtlgchgpplfhneaaDoorCloses
import Derived.Test.YtlgchgpplfhneaaDoorAccepts
import Derived.Test.YtlgchgpplfhneaaDoorMakeTreeTop
import Derived.Test.YtlgchgpplfhneaaDoorOpen
namespace Go.Proofs.YtlgchgpplfhneaaDoor
open Go.RowKit
set_option linter.unusedVariables false

theorem flat_le {f : Int → List Int} {n : Nat} : ∀ (y : List Int), (∀ x ∈ y, (f x).length ≤ n) → (y.flatMap f).length ≤ y.length * n
  | [], _ => by simp
  | x :: y, h => by
    have h1 := flat_le y (fun z hz => h z (by simp [hz]))
    have h2 := h x (by simp)
    rw [List.flatMap_cons, List.length_append, List.length_cons, Nat.add_mul]
    omega
theorem flat_take {f : Int → List Int} {y : List Int} {k : Nat} {z : Int} (h : y[k]? = some z) : (y.take (k + 1)).flatMap f = (y.take k).flatMap f ++ f z := by
  rw [take_snoc h, List.flatMap_append]; simp
def PcL (y : List Int) (f : Int → List Int) (w9 : World) (v i : Value) (wr : World) : Prop :=
  ∃ (k : Nat), k ≤ y.length ∧ i = .int .i64 k ∧ Own wr (fun _ => False) w9.heap.size 3 v ((y.take k).flatMap f) ∧ Below w9.heap.size w9 wr

set_option maxRecDepth 100000 in
set_option maxHeartbeats 8000000 in
theorem closedPut_any (A0 B0 C0 D0 : Option Addr) (c0 d0 e0 f0 : Nat) (ra rb ch mo : List Int) (x0 : Int) (S0 : Nat → Prop) (w : World) (h1 : ra.length ≤ c0) (h2 : c0 ≤ 9223372036854775807) (hA0 : Els w S0 ra A0) (i1 : rb.length ≤ d0) (i2 : d0 ≤ 9223372036854775807) (hB0 : Els w S0 rb B0) (k1 : ch.length ≤ e0) (k2 : e0 ≤ 9223372036854775807) (hC0 : Els w S0 ch C0) (l1 : mo.length ≤ f0) (l2 : f0 ≤ 9223372036854775807) (hD0 : Els w S0 mo D0) (hx0 : I64 x0) (hS0 : ∀ b, S0 b → b < w.heap.size) (hTab : Tab32 w) :
    Calls Tryd.prog 3 #[.slice A0 ra.length c0, .slice B0 rb.length d0, .slice C0 ch.length e0, .slice D0 mo.length f0, .int .i64 x0] w fun e w' => e = .returned (.bool true) ∧ Below w.heap.size w w' := by
  have HC0 := Lib.hid hC0
  have HD0 := Lib.hid hD0
  have HS0 := Lib.hid hS0
  have HT := Lib.hid hTab
  clear hTab
  go_enter Tryd.func3, Tryd.ntmps3
  go_wp2_with fail
  refine (same_any A0 B0 c0 d0 ra rb S0 _ h1 h2 hA0 i1 i2 hB0 hS0).mono ?_
  rintro e w1 ⟨g, h, A, B, c, d, hmade, hmade2, hte, rfl, hlc, hc, hld, hd, hA, hB, hb1⟩
  have hck := made_ok hmade
  have hckh := made_ok hmade2
  have hck2 := fun x => put_check (x := x) hmade hmade2 hte
  have hin := made_in hmade
  have hin2 := made_in hmade2
  have hvg := validG_of hck
  have hvh := validG_of hckh
  have hn10 : g.nons + h.nons ≤ 10 := by have h1 := hmade.2.2.2.1; have h2 := hmade2.2.2.2.1; omega
  obtain ⟨m, n, s0, rs⟩ := g
  obtain ⟨m2, n2, s2, rs2⟩ := h
  dsimp only at hte hn10
  have hte' := hte.symm
  clear hte
  subst hte'
  have ht1 : 1 ≤ m := hvg.t1
  have ht8 : m ≤ 8 := hvg.t8
  have hst2 : 0 ≤ s2 ∧ s2 < n2 := ⟨hvh.s0, hvh.s1⟩
  have HCk2 := Lib.hid hck2
  have HCk := Lib.hid hck
  have HCh := Lib.hid hckh
  have HIn := Lib.hid (And.intro hin hin2)
  have HVg := Lib.hid hvg
  have HVh := Lib.hid hvh
  dsimp only at hlc hld hA hB
  have hba : Below w1.heap.size w1 ((w1.alloc (.cells #[.int .i64 m, .int .i64 n, .int .i64 s0, .slice A rs.length c] 25)).alloc (.cells #[.int .i64 m, .int .i64 n2, .int .i64 s2, .slice B rs2.length d] 25)) := ((Below.refl _ _).alloc (Nat.le_refl _) _).alloc (by simp) _
  have HA1 := Lib.hid (hA.below hba)
  have HBx1 := Lib.hid (hB.below hba)
  have HB1 := Lib.hid (bthen hb1 hba hb1.size)
  have hz1 : w.heap.size ≤ w1.heap.size := hb1.size
  have hGx : Blk' ((w1.alloc (.cells #[.int .i64 m, .int .i64 n, .int .i64 s0, .slice A rs.length c] 25)).alloc (.cells #[.int .i64 m, .int .i64 n2, .int .i64 s2, .slice B rs2.length d] 25)) w1.heap.size 25 #[.int .i64 m, .int .i64 n, .int .i64 s0, .slice A rs.length c] := (Blk'.new _ _ _).alloc _
  have hHx : Blk' ((w1.alloc (.cells #[.int .i64 m, .int .i64 n, .int .i64 s0, .slice A rs.length c] 25)).alloc (.cells #[.int .i64 m, .int .i64 n2, .int .i64 s2, .slice B rs2.length d] 25)) (w1.heap.size + 1) 25 #[.int .i64 m, .int .i64 n2, .int .i64 s2, .slice B rs2.length d] := Blk'.new' _ _ _ (by simp)
  obtain ⟨w2, hw2⟩ : ∃ w2 : World, w2 = (w1.alloc (.cells #[.int .i64 m, .int .i64 n, .int .i64 s0, .slice A rs.length c] 25)).alloc (.cells #[.int .i64 m, .int .i64 n2, .int .i64 s2, .slice B rs2.length d] 25) := ⟨_, rfl⟩
  rw [← hw2] at HA1 HBx1 HB1 hGx hHx
  have HG1 := Lib.hid hGx
  have HH1 := Lib.hid hHx
  have HW2 := Lib.hid hw2
  have a0 : w2.cell? ⟨w1.heap.size, 0, none⟩ = some (.int .i64 m) := HG1.out.cell 0
  have a1 : w2.cell? ⟨w1.heap.size, 1, none⟩ = some (.int .i64 n) := HG1.out.cell 1
  have a2 : w2.cell? ⟨w1.heap.size, 2, none⟩ = some (.int .i64 s0) := HG1.out.cell 2
  have a3 : w2.cell? ⟨w1.heap.size, 3, none⟩ = some (.slice A rs.length c) := HG1.out.cell 3
  have j0 : w2.cell? ⟨w1.heap.size + 1, 0, none⟩ = some (.int .i64 m) := HH1.out.cell 0
  have j1 : w2.cell? ⟨w1.heap.size + 1, 1, none⟩ = some (.int .i64 n2) := HH1.out.cell 1
  have j2 : w2.cell? ⟨w1.heap.size + 1, 2, none⟩ = some (.int .i64 s2) := HH1.out.cell 2
  have j3 : w2.cell? ⟨w1.heap.size + 1, 3, none⟩ = some (.slice B rs2.length d) := HH1.out.cell 3
  have zG : w1.heap.size < w2.heap.size := HG1.out.lt
  have zH : w1.heap.size + 1 < w2.heap.size := HH1.out.lt
  clear hA hB hb1 hba hmade hmade2 hA0 hB0 hck hck2 hckh hvg hvh hw2 hin hin2 hC0 hD0 hS0 hGx hHx
  go_upto_region 2 with (fail)
  rw [← HW2.out]
  go_wp2_with fail
  refine (below_any x0 m _ hx0 ht1 (by omega)).mono ?_
  rintro e w2' ⟨x, hx1, hx2, rfl, rfl⟩
  obtain ⟨R, hR⟩ : ∃ R, R = (putG ⟨m, n, s0, rs⟩ x ⟨m, n2, s2, rs2⟩).rules := ⟨_, rfl⟩
  have hsg : putG ⟨m, n, s0, rs⟩ x ⟨m, n2, s2, rs2⟩ = ⟨m, n + n2, s0, R⟩ := by rw [hR]; rfl
  have HR := Lib.hid hR
  have HCkP : Hid (checkI ⟨m, n + n2, s0, R⟩ = 0) := Lib.hid (by rw [← hsg]; exact HCk2.out x)
  have HIf : Hid (∀ y u, DerW ⟨m, n2, s2, rs2⟩ [⟨false, s2⟩] u → DerW ⟨m, n, s0, rs⟩ [⟨false, s0⟩] y → DerW ⟨m, n + n2, s0, R⟩ [⟨false, s0⟩] (y.flatMap fun k => if k = x then u else [k])) := Lib.hid (fun y u hu hy => by
    have h := put_der (t := x) HIn.out.1 HIn.out.2 hst2 hu hy
    rw [hsg] at h
    exact h)
  clear hR hsg
  go_wp2_with fail
  refine (put_any ⟨m, n, s0, rs⟩ ⟨m, n2, s2, rs2⟩ x A B c d (fun b => b < w1.heap.size) w2 HCk.out HCh.out rfl ⟨hx1, hx2⟩ hn10 (HCk2.out x) hlc hc HA1.out hld hd HBx1.out (fun b hb => by omega)).mono ?_
  rintro e w4 ⟨A2, c2, rfl, hl2, hc2, hE2, hb4⟩
  rw [← HR.out] at hl2 hE2 ⊢
  dsimp only at hl2 hE2 ⊢
  have hbx : Below w4.heap.size w4 (w4.alloc (.cells #[.int .i64 m, .int .i64 (n + n2), .int .i64 s0, .slice A2 R.length c2] 25)) := (Below.refl _ _).alloc (Nat.le_refl _) _
  have HG2 := Lib.hid (Blk'.new w4 25 #[.int .i64 m, .int .i64 (n + n2), .int .i64 s0, .slice A2 R.length c2])
  have HA2 := Lib.hid ((hE2.keep (S' := fun b => b < w4.heap.size) (fun _ _ _ => rfl) (fun b hb => hb.2)).below hbx)
  have HB45 := Lib.hid (bthen hb4 hbx hb4.size)
  obtain ⟨w5, hw5⟩ : ∃ w5 : World, w5 = w4.alloc (.cells #[.int .i64 m, .int .i64 (n + n2), .int .i64 s0, .slice A2 R.length c2] 25) := ⟨_, rfl⟩
  rw [← hw5] at HG2 HA2 HB45
  have HW5 := Lib.hid hw5
  have HB5 := Lib.hid (bthen HB1.out HB45.out HB1.out.size)
  have hz4 := hb4.size
  have zG5 : w4.heap.size < w5.heap.size := HG2.out.lt
  clear hw5 hbx hb4 hE2 a0 a1 a2 a3 j0 j1 j2 j3
  go_upto_region 4 with (fail)
  rw [← HW5.out]
  go_wp2_with fail
  refine (closes_any _).mono ?_
  rintro e w6 ⟨rfl, hb6⟩
  have HB56 := Lib.hid hb6
  have HB26 := Lib.hid (bthen HB45.out hb6 HB45.out.size)
  have HB6 := Lib.hid (bthen HB5.out hb6 HB5.out.size)
  have HG6 := Lib.hid (HG1.out.below HB26.out HG1.out.lt)
  have HH6 := Lib.hid (HH1.out.below HB26.out HH1.out.lt)
  have HP6 := Lib.hid (HG2.out.below hb6 HG2.out.lt)
  have HA6 := Lib.hid (HA1.out.belowB HB26.out (fun b hb => by omega))
  have HBx6 := Lib.hid (HBx1.out.belowB HB26.out (fun b hb => by omega))
  have HR6 := Lib.hid (HA2.out.belowB hb6 (fun b hb => by omega))
  have HC6 := Lib.hid (HC0.out.belowB HB6.out HS0.out)
  have HD6 := Lib.hid (HD0.out.belowB HB6.out HS0.out)
  have z26 : w2.heap.size ≤ w6.heap.size := HB26.out.size
  have z56 : w5.heap.size ≤ w6.heap.size := hb6.size
  have b0 : w6.cell? ⟨w1.heap.size, 0, none⟩ = some (.int .i64 m) := HG6.out.cell 0
  have b1 : w6.cell? ⟨w1.heap.size, 1, none⟩ = some (.int .i64 n) := HG6.out.cell 1
  have b2 : w6.cell? ⟨w1.heap.size, 2, none⟩ = some (.int .i64 s0) := HG6.out.cell 2
  have b3 : w6.cell? ⟨w1.heap.size, 3, none⟩ = some (.slice A rs.length c) := HG6.out.cell 3
  have zG6 : w1.heap.size < w6.heap.size := HG6.out.lt
  clear hb6
  go_wp2_with fail
  refine (makeTree_any ⟨m, n, s0, rs⟩ A c ch C0 e0 (fun b => b < w1.heap.size) S0 w6 HVg.out.i64 hlc hc (by have := HVg.out.len; omega) (fun q hq => by have := (HVg.out.rules q hq).2.2.1; omega) HA6.out (fun b hb => by omega) k1 k2 HC6.out (fun b hb => by have := HS0.out b hb; omega)).mono ?_
  rintro e w7 ⟨v, ok, rfl, hb7, ⟨ta, tb, TA, tn, tc, rfl⟩, hok⟩
  obtain ⟨w8, hw8⟩ : ∃ w8 : World, w8 = w7.alloc (.cells #[.int .i64 ta, .int .i64 tb, .slice TA tn tc] 35) := ⟨_, rfl⟩
  have HW8 := Lib.hid hw8
  have hb8 : Below w7.heap.size w7 w8 := by rw [hw8]; exact (Below.refl _ _).alloc (Nat.le_refl _) _
  have HT8 : Hid (Blk' w8 w7.heap.size 35 #[.int .i64 ta, .int .i64 tb, .slice TA tn tc]) := Lib.hid (by rw [hw8]; exact Blk'.new _ _ _)
  have HB68 := Lib.hid (bthen hb7 hb8 hb7.size)
  have HOk : Hid (ok = true → ∃ t : Tree, vt ⟨m, n, s0, rs⟩ t ⟨false, s0⟩ ∧ Vl w8 (fun b => w6.heap.size ≤ b ∧ b < w7.heap.size) t (.agg #[.int .i64 ta, .int .i64 tb, .slice TA tn tc]) ∧ (yieldT t).length ≤ 60) := Lib.hid (fun h => by
    obtain ⟨t, h1, h2, h3⟩ := hok h
    exact ⟨t, h1, h2.belowB hb8 (fun b hb => hb.2), h3⟩)
  have HB8 := Lib.hid (bthen HB6.out HB68.out HB6.out.size)
  have HH8 := Lib.hid (HH6.out.below HB68.out HH6.out.lt)
  have HP8 := Lib.hid (HP6.out.below HB68.out HP6.out.lt)
  have HBx8 := Lib.hid (HBx6.out.belowB HB68.out (fun b hb => by omega))
  have HR8 := Lib.hid (HR6.out.belowB HB68.out (fun b hb => by omega))
  have HD8 := Lib.hid (HD6.out.belowB HB68.out (fun b hb => by have := HS0.out b hb; omega))
  have z68 : w6.heap.size ≤ w7.heap.size := hb7.size
  have z78 : w7.heap.size < w8.heap.size := HT8.out.lt
  have c0' : w8.cell? ⟨w1.heap.size + 1, 0, none⟩ = some (.int .i64 m) := HH8.out.cell 0
  have c1' : w8.cell? ⟨w1.heap.size + 1, 1, none⟩ = some (.int .i64 n2) := HH8.out.cell 1
  have c2' : w8.cell? ⟨w1.heap.size + 1, 2, none⟩ = some (.int .i64 s2) := HH8.out.cell 2
  have c3' : w8.cell? ⟨w1.heap.size + 1, 3, none⟩ = some (.slice B rs2.length d) := HH8.out.cell 3
  have zH8 : w1.heap.size + 1 < w8.heap.size := HH8.out.lt
  clear hb7 hb8 hok hw8 b0 b1 b2 b3
  go_upto_region 7 with (fail)
  rw [← HW8.out]
  go_wp2_with fail
  refine (makeTree_any ⟨m, n2, s2, rs2⟩ B d mo D0 f0 (fun b => b < w1.heap.size) S0 w8 HVh.out.i64 hld hd (by have := HVh.out.len; omega) (fun q hq => by have := (HVh.out.rules q hq).2.2.1; omega) HBx8.out (fun b hb => by omega) l1 l2 HD8.out (fun b hb => by have := HS0.out b hb; omega)).mono ?_
  rintro e w9 ⟨v, ok2, rfl, hb9, ⟨ua, ub, UA, un, uc, rfl⟩, hok⟩
  obtain ⟨wA, hwA⟩ : ∃ wA : World, wA = w9.alloc (.cells #[.int .i64 ua, .int .i64 ub, .slice UA un uc] 35) := ⟨_, rfl⟩
  have HWA := Lib.hid hwA
  have hbA : Below w9.heap.size w9 wA := by rw [hwA]; exact (Below.refl _ _).alloc (Nat.le_refl _) _
  have HUA : Hid (Blk' wA w9.heap.size 35 #[.int .i64 ua, .int .i64 ub, .slice UA un uc]) := Lib.hid (by rw [hwA]; exact Blk'.new _ _ _)
  have HB8A := Lib.hid (bthen hb9 hbA hb9.size)
  have HOk2 : Hid (ok2 = true → ∃ t : Tree, vt ⟨m, n2, s2, rs2⟩ t ⟨false, s2⟩ ∧ Vl wA (fun b => w8.heap.size ≤ b ∧ b < w9.heap.size) t (.agg #[.int .i64 ua, .int .i64 ub, .slice UA un uc]) ∧ (yieldT t).length ≤ 60) := Lib.hid (fun h => by
    obtain ⟨t, h1, h2, h3⟩ := hok h
    exact ⟨t, h1, h2.belowB hbA (fun b hb => hb.2), h3⟩)
  have HBA := Lib.hid (bthen HB8.out HB8A.out HB8.out.size)
  have HTA := Lib.hid (HT8.out.below HB8A.out HT8.out.lt)
  have HPA := Lib.hid (HP8.out.below HB8A.out HP8.out.lt)
  have HRA := Lib.hid (HR8.out.belowB HB8A.out (fun b hb => by omega))
  have z8A : w8.heap.size ≤ w9.heap.size := hb9.size
  have z9A : w9.heap.size < wA.heap.size := HUA.out.lt
  clear hb9 hbA hok hwA c0' c1' c2' c3'
  cases ok
  · go_upto_region 8 with (fail)
    rw [← HWA.out]
    go_wp2
    go_ret
    exact ⟨rfl, HBA.out⟩
  cases ok2
  · go_upto_region 8 with (fail)
    rw [← HWA.out]
    go_wp2
    go_ret
    exact ⟨rfl, HBA.out⟩
  obtain ⟨t, ht, hvt, hlt⟩ := HOk.out rfl
  obtain ⟨u, hu, hvu, hlu⟩ := HOk2.out rfl
  obtain ⟨ts, he, hra, hta, hts⟩ := hvt.tree
  injection he with he
  simp at he
  obtain ⟨rfl, rfl, rfl⟩ := he
  obtain ⟨rfl, htc1, htc2, htE⟩ := hts.els
  obtain ⟨us, he, hrb, htb, hus⟩ := hvu.tree
  injection he with he
  simp at he
  obtain ⟨rfl, rfl, rfl⟩ := he
  obtain ⟨rfl, huc1, huc2, huE⟩ := hus.els
  have HTr := Lib.hid (And.intro ht hu)
  have HTE := Lib.hid (htE.belowB HB8A.out (fun b hb => by omega))
  have HUE := Lib.hid huE
  have HI := Lib.hid (And.intro hra (And.intro hta (And.intro hrb htb)))
  have y0 : wA.cell? ⟨w7.heap.size, 0, none⟩ = some (.int .i64 t.rule) := HTA.out.cell 0
  have y1 : wA.cell? ⟨w7.heap.size, 1, none⟩ = some (.int .i64 t.term) := HTA.out.cell 1
  have y2 : wA.cell? ⟨w7.heap.size, 2, none⟩ = some (.slice TA t.kids.length tc) := HTA.out.cell 2
  have z7A : w7.heap.size < wA.heap.size := HTA.out.lt
  obtain ⟨Y, hY⟩ : ∃ Y, Y = yieldT t := ⟨_, rfl⟩
  obtain ⟨U, hU⟩ : ∃ U, U = yieldT u := ⟨_, rfl⟩
  have HY := Lib.hid hY
  have HU := Lib.hid hU
  have HYl : Hid (Y.length ≤ 60 ∧ U.length ≤ 60) := Lib.hid (by rw [hY, hU]; exact ⟨hlt, hlu⟩)
  clear ht hu hvt hvu hts hus htE huE hra hta hrb htb hY hU
  go_upto_region 11 with (fail)
  rw [← HWA.out]
  go_wp2_with fail
  refine (yield_any t TA tc (fun b => w6.heap.size ≤ b ∧ b < w7.heap.size) wA (fun b hb => by omega) HI.out.1 HI.out.2.1 htc1 htc2 HTE.out (by omega)).mono ?_
  rintro e wB ⟨vy, rfl, hown, hbB⟩
  rw [← HY.out] at hown
  obtain ⟨AY, cY, rfl, hcY1, hcY2, _⟩ := hown.form
  have HEY := Lib.hid (hown.vl.els.2.2.2.keep (S' := fun b => b < wB.heap.size) (fun _ _ _ => rfl) (fun b hb => hb.2))
  have HBB := Lib.hid (bthen HBA.out hbB HBA.out.size)
  have HUB := Lib.hid (HUA.out.below hbB HUA.out.lt)
  have HPB := Lib.hid (HPA.out.below hbB HPA.out.lt)
  have HRB := Lib.hid (HRA.out.belowB hbB (fun b hb => by omega))
  have HUEB := Lib.hid (HUE.out.belowB hbB (fun b hb => by omega))
  have zAB : wA.heap.size ≤ wB.heap.size := hbB.size
  have hY9 : Y.length ≤ 9223372036854775807 := by have := HYl.out; omega
  clear hown hbB y0 y1 y2 hcY1
  go_wp2_with fail
  obtain ⟨f, hf⟩ : ∃ f : Int → List Int, f = fun k => if k = x then U else [k] := ⟨_, rfl⟩
  have HF := Lib.hid hf
  have HFl : Hid (∀ k, (Y.take k).length ≤ 60 ∧ ((Y.take k).flatMap f).length ≤ 3660) := Lib.hid (fun k => by
    have h1 : (Y.take k).length ≤ 60 := by rw [List.length_take]; have := HYl.out; omega
    have h2 := flat_le (f := f) (n := 61) (Y.take k) (fun z _ => by
      rw [hf]; dsimp only
      split
      · have := HYl.out; omega
      · simp)
    refine ⟨h1, ?_⟩
    have h3 : (Y.take k).length * 61 ≤ 60 * 61 := Nat.mul_le_mul_right 61 h1
    omega)
  clear hf
  go_loopw [19, 68] (fun v i wr => PcL Y f wB v i wr) (fun _ i _ => Y.length - (intOf i).toNat)
  case atStart => exact ⟨0, Nat.zero_le _, rfl, Own.nil _ _ _ _, Below.refl _ _⟩
  case round =>
    obtain ⟨wo, hwo⟩ : ∃ wo : World, wo = wr := ⟨_, rfl⟩
    subst hwo
    obtain ⟨k, hk, rfl, hown, hb⟩ := hrel
    obtain ⟨AV, cV, rfl, hcV1, hcV2, _⟩ := hown.form
    obtain ⟨L, hL⟩ : ∃ L, L = (Y.take k).flatMap f := ⟨_, rfl⟩
    rw [← hL] at hown hcV1 ⊢
    have HL := Lib.hid hL
    have HLl : Hid (L.length ≤ 3660) := Lib.hid (by rw [hL]; exact (HFl.out k).2)
    have HOw := Lib.hid hown
    have HB := Lib.hid hb
    have HBo := Lib.hid (bthen HBB.out hb HBB.out.size)
    have zBo : wB.heap.size ≤ wo.heap.size := hb.size
    clear hown hb hL
    by_cases hlt : k < Y.length
    · obtain ⟨z, hz⟩ := get_some hlt
      obtain ⟨by_, oy, rfl, _, hbys, hzI, cz⟩ := (HEY.out.belowB HB.out (fun b hb => hb)).int hz
      have HZ := Lib.hid (And.intro hz hzI)
      have hk0 : (0 : Int) ≤ (k : Int) := by omega
      have HNx : Hid ((Y.take (k + 1)).flatMap f = L ++ f z) := Lib.hid (by rw [HL.out]; exact flat_take hz)
      clear hz hzI
      by_cases hzx : z = x
      · subst hzx
        have HUo := HUB.out.below HB.out HUB.out.lt
        have u0 : wo.cell? ⟨w9.heap.size, 0, none⟩ = some (.int .i64 u.rule) := HUo.cell 0
        have u1 : wo.cell? ⟨w9.heap.size, 1, none⟩ = some (.int .i64 u.term) := HUo.cell 1
        have u2 : wo.cell? ⟨w9.heap.size, 2, none⟩ = some (.slice UA u.kids.length uc) := HUo.cell 2
        have zU : w9.heap.size < wo.heap.size := HUo.lt
        have HUEo := Lib.hid (HUEB.out.belowB HB.out (fun b hb => by omega))
        clear HUo
        go_wp2_with fail
        refine (yield_any u UA uc (fun b => w8.heap.size ≤ b ∧ b < w9.heap.size) wo (fun b hb => by omega) HI.out.2.2.1 HI.out.2.2.2 huc1 huc2 HUEo.out (by omega)).mono ?_
        rintro e wC ⟨vu, rfl, hownU, hbC⟩
        rw [← HU.out] at hownU
        obtain ⟨AU, cU, rfl, hcU1, hcU2, _⟩ := hownU.form
        have HOC := Lib.hid (HOw.out.below hbC (Nat.le_refl _))
        have HEU : Hid (Els wC (OwnT (fun _ => False) wB.heap.size (.slice AV L.length cV) wC) U AU) := Lib.hid (hownU.vl.els.2.2.2.keep (fun _ _ _ => rfl) (fun b hb => by
          have h9 : wo.heap.size ≤ b := by rcases hb.1 with h | h; exact h.elim; exact h
          exact ⟨.inr (by omega), fun e => by have h3 := (HOw.out.block b e).2; omega, hb.2⟩))
        have HBC := Lib.hid hbC
        have HCap : Hid ((L.length + U.length) * 8 ≤ 140737488355328 ∧ L.length + U.length ≤ 9223372036854775807 ∧ wB.heap.size ≤ wC.heap.size) := Lib.hid (by have h1 := HLl.out; have h2 := HYl.out; have h3 := hbC.size; omega)
        clear hownU hbC u0 u1 u2 cz hcU1
        go_wp2_with (at_builtin; (refine wpList_ownMany _ rfl _ _ elemInt rfl rfl HOC.out U rfl rfl HEU.out HCap.out.1 HCap.out.2.1 HCap.out.2.2 ?_); (intro v8 w8' hown8 hg8 hat8); (have H8 := Lib.hid (And.intro hown8 hg8)); (clear hown8 hg8 hat8))
        go_roundw
        case rel =>
          obtain ⟨hown8, hg8⟩ := H8.out
          refine ⟨k + 1, hlt, by go_num, ?_, (HB.out.trans (HBC.out.mono (by omega))).grown hg8 (by have := HBC.out.size; omega) (fun k hk => (HOC.out.block k hk).1)⟩
          rw [HNx.out, HF.out]
          simpa using hown8
        case measure => simp [intOf]; omega
      · have HRd : Hid (Dat.rd (wo.alloc (.cells #[.int .i64 z] 3)) (OwnT (fun _ => False) wB.heap.size (.slice AV L.length cV) (wo.alloc (.cells #[.int .i64 z] 3))) (z : Int) [.int .i64 z]) := Lib.hid ⟨rfl, HZ.out.2⟩
        have HOa := Lib.hid (HOw.out.alloc (.cells #[.int .i64 z] 3))
        have HCap : Hid ((L.length + 1) * 8 ≤ 140737488355328 ∧ L.length + 1 ≤ 9223372036854775807 ∧ wB.heap.size ≤ (wo.alloc (.cells #[.int .i64 z] 3)).heap.size) := Lib.hid (by have h1 := HLl.out; simp; omega)
        go_wp2_with (at_builtin; (refine wpList_own1 _ rfl _ _ elemInt rfl rfl HOa.out z [.int .i64 z] rfl (At.new _ _ _) HRd.out HCap.out.1 HCap.out.2.1 HCap.out.2.2 ?_); (intro v8 w8' hown8 hg8 hat8); (have H8 := Lib.hid (And.intro hown8 hg8)); (clear hown8 hg8 hat8))
        go_roundw
        case rel =>
          obtain ⟨hown8, hg8⟩ := H8.out
          refine ⟨k + 1, hlt, by go_num, ?_, (HB.out.alloc (by omega) _).grown hg8 (by simp; omega) (fun k hk => (HOa.out.block k hk).1)⟩
          rw [HNx.out, HF.out]
          simpa [hzx] using hown8
        case measure => simp [intOf]; omega
    · have hkk : k = Y.length := by omega
      have HLe : Hid (L = Y.flatMap f) := Lib.hid (by rw [HL.out, hkk, List.take_length])
      have HDer : Hid (DerW ⟨m, n + n2, s0, R⟩ [⟨false, s0⟩] L) := Lib.hid (by
        rw [HLe.out, HF.out, HY.out, HU.out]
        exact HIf.out _ _ (by have h := der_of_tree u _ HTr.out.2 [] [] .nil; rwa [List.append_nil] at h) (by have h := der_of_tree t _ HTr.out.1 [] [] .nil; rwa [List.append_nil] at h))
      have hvp := validG_of HCkP.out
      have HLt : Hid (∀ a ∈ L, 0 ≤ a ∧ a < m) := Lib.hid (der_termsG (g := ⟨m, n + n2, s0, R⟩) (fun q hq s hs ht => by have h := (hvp.rules q hq).2.2.2 s hs; rw [if_pos ht] at h; exact h) HDer.out (fun s hs ht => by simp at hs; subst hs; cases ht))
      clear hkk hvp
      by_cases h12 : (12 : Int) < (L.length : Int)
      · go_wp2
        go_ret
        exact ⟨rfl, HBo.out⟩
      · have hPo := HPB.out.below HB.out HPB.out.lt
        have p0 : wo.cell? ⟨w4.heap.size, 0, none⟩ = some (.int .i64 m) := hPo.cell 0
        have p1 : wo.cell? ⟨w4.heap.size, 1, none⟩ = some (.int .i64 (n + n2)) := hPo.cell 1
        have p2 : wo.cell? ⟨w4.heap.size, 2, none⟩ = some (.int .i64 s0) := hPo.cell 2
        have p3 : wo.cell? ⟨w4.heap.size, 3, none⟩ = some (.slice A2 R.length c2) := hPo.cell 3
        have zP : w4.heap.size < wo.heap.size := hPo.lt
        have HEL := Lib.hid (HOw.out.vl.els.2.2.2.keep (S' := fun b => b < wo.heap.size) (fun _ _ _ => rfl) (fun b hb => hb.2))
        have HRo := Lib.hid (HRB.out.belowB HB.out (fun b hb => by omega))
        clear hPo
        go_wp2_with fail
        refine (accepts_any ⟨m, n + n2, s0, R⟩ L A2 AV c2 cV (fun b => b < w4.heap.size) (fun b => b < wo.heap.size) wo HCkP.out hl2 hc2 HRo.out (fun b hb => by omega) HEL.out (fun b hb => hb) (word_ok (by omega) HLt.out) (HT.out.below HBo.out HT.out.1)).mono ?_
        rintro e wF ⟨b8, rfl, h8, hbF⟩
        have hb8t : b8 = true := h8.2 HDer.out
        subst hb8t
        have HBF := Lib.hid (bthen HBo.out hbF HBo.out.size)
        clear h8 hbF p0 p1 p2 p3
        go_wp2
        go_ret
        exact ⟨rfl, HBF.out⟩
theorem closedPut_row (l m k j : List Int) (x : Int) (v u a b c : Value) (W : World) (h : Vl W (OldS W) l v) (hm : Vl W (OldS W) m u) (hk : Vl W (OldS W) k a) (hj : Vl W (OldS W) j b) (hx : Vl W (OldS W) x c) (hT : Tab32 W) :
    Calls Tryd.prog 3 #[v, u, a, b, c] W fun e W' => e = .returned (.bool true) ∧ Below W.heap.size W W' := by
  obtain ⟨A, c0, rfl, h1, h2, hA⟩ := h.slice
  obtain ⟨B, d0, rfl, i1, i2, hB⟩ := hm.slice
  obtain ⟨C, e0, rfl, k1, k2, hC⟩ := hk.slice
  obtain ⟨D, f0, rfl, l1, l2, hD⟩ := hj.slice
  obtain ⟨rfl, hxi⟩ := hx.int
  exact closedPut_any A B C D c0 d0 e0 f0 l m k j x (OldS W) W h1 h2 hA i1 i2 hB k1 k2 hC l1 l2 hD hxi (fun b h => h) hT
end Go.Proofs.YtlgchgpplfhneaaDoor
