/- Contract: parlkeep2.Operators: a valid table, whatever the numbers. -/
import Derived.Test.YtnphbbhnfkjlcaaQOperAt
import Derived.Test.YtnphbbhnfkjlcaaQp1
import Derived.Laws.EntriesVeiled
import Derived.Deep.RegionHeld3
import Derived.Deep.DeepCutAuto
import Derived.IntWalk
import Derived.Deep.QuietTactic
import Derived.BigQuiet
namespace Go.Proofs.Ytnphbbhnfkjlcaa
open Go.RowKit
set_option linter.unusedVariables false

theorem infoLevel : (Try.prog.info? 116).map (fun i => (i.zero, i.size, i.bytes)) = some (some (.agg #[.int .i64 0, .slice none 0 0]), 2, 32) := by kernel_rfl
theorem elemLevel : ElemT Try.prog Level 35 116 32 := by obtain ⟨i, h1, h2, h3, h4⟩ := info_parts infoLevel; exact ⟨i, _, Try.underlying35, h1, h2, h3, h4, rfl⟩

structure OpH (l : List Int) (A : Option Addr) (c : Nat) (w wr : World) : Prop where
  box : Blk' wr w.heap.size 38 #[.slice A l.length c]
  res : Blk' wr (w.heap.size + 1) 37 #[.int .i64 0, .int .i64 0, .int .i64 0, .int .i64 0, .slice none 0 0]
  bel : Below w.heap.size w wr
  size : w.heap.size + 3 ≤ wr.heap.size
theorem OpH.kept {l : List Int} {A : Option Addr} {c : Nat} {w wr w' : World} {X : Nat → Prop} (h : OpH l A c w wr) (k : Kept X wr w') (hX : ∀ b, X b → w.heap.size + 2 ≤ b) : OpH l A c w w' :=
  ⟨h.box.kept k (fun e => by have := hX _ e; omega), h.res.kept k (fun e => by have := hX _ e; omega), bthen h.bel (k.to_below (B := w.heap.size) (fun b hb => by have := hX b hb; omega) h.bel.size) (Nat.le_refl _), Nat.le_trans h.size k.size⟩
theorem OpH.below {l : List Int} {A : Option Addr} {c : Nat} {w wr w' : World} (h : OpH l A c w wr) (k : Below wr.heap.size wr w') : OpH l A c w w' := h.kept (Kept.of_below (fun _ => False) k) (fun _ h => h.elim)

def OpO (l : List Int) (A : Option Addr) (c : Nat) (w : World) (N : Nat) (op i : Value) (wr : World) : Prop :=
  ∃ (j k : Nat) (t : Table) (v : Value), j ≤ N ∧ i = .int .i64 j ∧ op = .int .i64 ((k : Int) + 3) ∧ OpsT t j k ∧ (l = [] → t.opn = -1) ∧ OpH l A c w wr ∧ Blk' wr (w.heap.size + 2) 37 #[.int .i64 8, .int .i64 0, .int .i64 t.opn, .int .i64 t.cls, v] ∧ Own wr (fun _ => False) (w.heap.size + 3) 116 v t.levels
def OpI (wz : World) (kd : Int) (k M : Nat) (op i : Value) (wr : World) : Prop :=
  ∃ (j q : Nat) (v : Value), j ≤ M ∧ q ≤ j ∧ k + q ≤ 5 ∧ i = .int .i64 j ∧ op = .int .i64 ((k : Int) + (q : Int) + 3) ∧ Blk' wr wz.heap.size 116 #[.int .i64 kd, v] ∧ Own wr (fun _ => False) (wz.heap.size + 1) 3 v (runL q (3 + (k : Int))) ∧ Below wz.heap.size wz wr
def RetOps (l : List Int) (w : World) (e : Ending) (w' : World) : Prop :=
  ∃ (t : Table) (v : Value) (k : Nat), e = .returned (.agg #[.int .i64 8, .int .i64 0, .int .i64 t.opn, .int .i64 t.cls, v]) ∧ OpsT t 4 k ∧ (l = [] → t.opn = -1 ∧ t.levels = []) ∧ Vl w' (fun b => w.heap.size ≤ b ∧ b < w'.heap.size) t.levels v ∧ Below w.heap.size w w'

set_option maxRecDepth 100000 in
set_option maxHeartbeats 4000000 in
theorem operators_any (l : List Int) (A : Option Addr) (c : Nat) (S : Nat → Prop) (w : World) (hlc : l.length ≤ c) (hc : c ≤ 9223372036854775807) (hA : Els w S l A) (hS : ∀ b, S b → b < w.heap.size) :
    Calls Try.prog 25 #[.slice A l.length c] w (RetOps l w) := by
  obtain ⟨w0, hw0⟩ : ∃ w0 : World, w0 = ((w.alloc (.cells #[.slice A l.length c] 38)).alloc (.cells #[.int .i64 0, .int .i64 0, .int .i64 0, .int .i64 0, .slice none 0 0] 37)).alloc (.cells #[.int .i64 8, .int .i64 0, .int .i64 (-1), .int .i64 (-1), .slice none 0 0] 37) := ⟨_, rfl⟩
  have hb0 : Below w.heap.size w w0 := by rw [hw0]; exact (((Below.refl _ _).alloc (Nat.le_refl _) _).alloc (by simp) _).alloc (by simp; omega) _
  have hs0 : w0.heap.size = w.heap.size + 3 := by rw [hw0]; simp
  have H0 : Hid (OpH l A c w w0) := Lib.hid ⟨by rw [hw0]; exact ((Blk'.new w _ _).alloc _).alloc _, by rw [hw0]; exact (Blk'.new' _ _ _ (by simp)).alloc _, hb0, by omega⟩
  have HT0 : Hid (Blk' w0 (w.heap.size + 2) 37 #[.int .i64 8, .int .i64 0, .int .i64 (-1), .int .i64 (-1), .slice none 0 0]) := Lib.hid (by rw [hw0]; exact Blk'.new' _ _ _ (by simp))
  have HS0 := Lib.hid hs0
  have HW0 := Lib.hid hw0
  have HA := Lib.hid hA
  have HS := Lib.hid hS
  clear hw0 hb0 hs0 hA hS
  go_enter Try.func25, Try.ntmps25
  go_upto_region 3 with (fail)
  rw [← HW0.out]
  go_wp2_with fail
  refine (at_any l w.heap.size A c S 0 2 _ (by omega) (by omega) (by omega) (by omega) hlc hc H0.out.box (HA.out.belowB H0.out.bel HS.out)).mono ?_
  rintro e w1 ⟨r, hr0, hr2, hrl, rfl, rfl⟩
  have HRl := Lib.hid hrl
  clear hrl
  have zT := HT0.out.lt
  have fT2 := HT0.out.frozen 2
  have fT3 := HT0.out.frozen 3
  have cT2 : w0.cell? ⟨w.heap.size + 2, 2, none⟩ = some (.int .i64 (-1)) := HT0.out.cell 2
  have cT3 : w0.cell? ⟨w.heap.size + 2, 3, none⟩ = some (.int .i64 (-1)) := HT0.out.cell 3
  go_upto_if 12 with (fail)
  go_cut [12] (fun v wx => ∃ op cl : Int, ((op = -1 ∧ cl = -1) ∨ (op = 1 ∧ cl = 2)) ∧ (l = [] → op = -1) ∧ OpH l A c w wx ∧ Blk' wx (w.heap.size + 2) 37 #[.int .i64 8, .int .i64 0, .int .i64 op, .int .i64 cl, .slice none 0 0])
  case first =>
    by_cases hr : r = 1
    · subst hr
      have HE : Hid (OpH l A c w ((w0.setCell ⟨w.heap.size + 2, 2, none⟩ (.int .i64 1)).setCell ⟨w.heap.size + 2, 3, none⟩ (.int .i64 2)) ∧ Blk' ((w0.setCell ⟨w.heap.size + 2, 2, none⟩ (.int .i64 1)).setCell ⟨w.heap.size + 2, 3, none⟩ (.int .i64 2)) (w.heap.size + 2) 37 #[.int .i64 8, .int .i64 0, .int .i64 1, .int .i64 2, .slice none 0 0]) := Lib.hid ⟨H0.out.kept (((Kept.refl (fun b => b = w.heap.size + 2) w0).setCell (p := ⟨w.heap.size + 2, 2, none⟩) (.inl rfl) _).setCell (p := ⟨w.heap.size + 2, 3, none⟩) (.inl rfl) _) (fun b hb => by omega), (HT0.out.set_ 2 _).set_ 3 _⟩
      go_wp2
      go_meet
      exact ⟨1, 2, .inr ⟨rfl, rfl⟩, fun h => by have := HRl.out h; omega, HE.out.1, HE.out.2⟩
    · go_wp2
      go_meet
      exact ⟨-1, -1, .inl ⟨rfl, rfl⟩, fun _ => rfl, H0.out, HT0.out⟩
  case rest =>
  obtain ⟨op, cl, hoc, hop, hH2, hT2⟩ := hcut
  have HOc := Lib.hid (And.intro hoc hop)
  have H2 := Lib.hid hH2
  have HT2 := Lib.hid hT2
  clear hoc hop hH2 hT2 cT2 cT3 fT2 fT3 zT H0 HT0 HW0 HS0 HRl
  go_wp2_with fail
  refine (at_any l w.heap.size A c S 1 5 _ (by omega) (by omega) (by omega) (by omega) hlc hc H2.out.box (HA.out.belowB H2.out.bel HS.out)).mono ?_
  rintro e w2 ⟨rN, hN0, hN5, hNl, rfl, rfl⟩
  obtain ⟨N, rfl⟩ : ∃ N : Nat, rN = (N : Int) := ⟨rN.toNat, by omega⟩
  have HNl := Lib.hid hNl
  clear hNl
  go_wp2_with fail
  go_loopw [5, 17] (fun op i wr => OpO l A c w N op i wr) (fun _ i _ => N - (intOf i).toNat)
  case atStart => exact ⟨0, 0, ⟨8, 0, op, cl, []⟩, .slice none 0 0, Nat.zero_le _, rfl, rfl, ⟨rfl, rfl, HOc.out.1, by simp, rfl, by omega, by simp⟩, HOc.out.2, H2.out, HT2.out, Own.nil _ _ _ _⟩
  case round =>
    obtain ⟨wx, hwx⟩ : ∃ wx : World, wx = wr := ⟨_, rfl⟩
    subst hwx
    obtain ⟨j, k, t, v, hj, rfl, rfl, hO, hop2, hH, hT, hOw⟩ := hrel
    have HO := Lib.hid hO
    have Hop := Lib.hid hop2
    have HH := Lib.hid hH
    have HT := Lib.hid hT
    have HOw := Lib.hid hOw
    have hk5 := hO.k5
    have hsx := hH.size
    clear hO hop2 hH hT hOw H2 HT2
    by_cases hlt : j < N
    · have hj5 : (j : Int) < 5 := by omega
      have hj0 : (0 : Int) ≤ (j : Int) := by omega
      go_wp2_with fail
      refine (at_any l w.heap.size A c S _ 4 _ (by omega) (by omega) (by omega) (by omega) hlc hc HH.out.box (HA.out.belowB HH.out.bel HS.out)).mono ?_
      rintro e w3 ⟨kd, hk0, hk4, _, rfl, rfl⟩
      obtain ⟨w4, hw4⟩ : ∃ w4 : World, w4 = wx.alloc (.cells #[.int .i64 kd, .slice none 0 0] 116) := ⟨_, rfl⟩
      have hb4 : Below wx.heap.size wx w4 := by rw [hw4]; exact (Below.refl _ _).alloc (Nat.le_refl _) _
      have HX4 : Hid (Blk' w4 wx.heap.size 116 #[.int .i64 kd, .slice none 0 0]) := Lib.hid (by rw [hw4]; exact Blk'.new _ _ _)
      have HB4 := Lib.hid hb4
      have HW4 := Lib.hid hw4
      clear hw4 hb4
      go_upto_region 10 with (fail)
      rw [← HW4.out]
      go_wp2_with fail
      refine (at_any l w.heap.size A c S _ 2 _ (by omega) (by omega) (by omega) (by omega) hlc hc (HH.out.below HB4.out).box (HA.out.belowB (HH.out.below HB4.out).bel HS.out)).mono ?_
      rintro e w5 ⟨r2, hr0, hr2, _, rfl, rfl⟩
      obtain ⟨R, rfl⟩ : ∃ R : Nat, r2 = (R : Int) := ⟨r2.toNat, by omega⟩
      go_wp2_with fail
      go_loopw [5, 32] (fun op i wr => OpI wx kd k (R + 1) op i wr) (fun _ i _ => R + 1 - (intOf i).toNat)
      case atStart => exact ⟨0, 0, .slice none 0 0, by omega, by omega, by omega, rfl, by simp, HX4.out, Own.nil _ _ _ _, HB4.out⟩
      case round =>
        obtain ⟨wi, hwi⟩ : ∃ wi : World, wi = wr := ⟨_, rfl⟩
        subst hwi
        obtain ⟨i, q, vo, hi, hqi, hkq, rfl, rfl, hXi, hOi, hBi⟩ := hrel
        have HXi := Lib.hid hXi
        have HOi := Lib.hid hOi
        have HBi := Lib.hid hBi
        have x0 : wi.cell? ⟨wx.heap.size, 0, none⟩ = some (.int .i64 kd) := hXi.cell 0
        have x1 : wi.cell? ⟨wx.heap.size, 1, none⟩ = some vo := hXi.cell 1
        have fx := hXi.frozen 1
        have zx := hXi.lt
        obtain ⟨Ao, co, e1, _, _, _⟩ := hOi.form
        rw [runL_len] at e1
        subst e1
        clear hXi hOi hBi
        by_cases hlt2 : i < R + 1
        · have hi9 : (i : Int) < 1 + (R : Int) := by omega
          by_cases h8 : k + q < 5
          · have h88 : (k : Int) + (q : Int) + 3 < 8 := by omega
            have hI : I64 ((k : Int) + (q : Int) + 3) := by unfold I64; omega
            have HI := Lib.hid hI
            have HRn := Lib.hid (show runL (q + 1) (3 + (k : Int)) = runL q (3 + (k : Int)) ++ [(k : Int) + (q : Int) + 3] by rw [runL_snoc, show 3 + (k : Int) + (q : Int) = (k : Int) + (q : Int) + 3 from by omega])
            have HOa := Lib.hid (HOi.out.alloc (.cells #[.int .i64 ((k : Int) + (q : Int) + 3)] 3))
            have HXa := Lib.hid (HXi.out.alloc (.cells #[.int .i64 ((k : Int) + (q : Int) + 3)] 3))
            have HBa := Lib.hid (HBi.out.alloc HBi.out.size (.cells #[.int .i64 ((k : Int) + (q : Int) + 3)] 3))
            have HLn : Hid ((runL q (3 + (k : Int))).length = q) := Lib.hid (runL_len _ _)
            clear hI
            go_wp2_with (at_builtin; (refine wpList_own1 _ rfl _ _ elemInt rfl rfl HOa.out ((k : Int) + (q : Int) + 3) [.int .i64 ((k : Int) + (q : Int) + 3)] rfl (At.new wi _ _) ⟨rfl, HI.out⟩ (by rw [HLn.out]; omega) (by rw [HLn.out]; omega) (by have := HBa.out.size; simp; omega) ?_); (intro v9 w9 hown9 hg9 hat9); (obtain ⟨A9, k9, hv9, _⟩ := hown9.form); (rw [List.length_append, HLn.out] at hv9); (subst hv9); (have hX9 := HXa.out.grown hg9 (fun e => by have := (HOi.out.block _ e.symm).1; omega)); (have c9 := hX9.cell 1); (have f9 := hX9.frozen 1); (have z9 := hX9.lt); (have H9 := Lib.hid (And.intro hown9 (And.intro hg9 hX9))); (clear hown9 hg9 hat9 hX9); (simp at c9))
            go_roundw
            case rel => exact ⟨i + 1, q + 1, _, hlt2, by omega, by omega, by go_num, by go_num, H9.out.2.2.set_ 1 _, by
              have h := H9.out.1.setCell (p := ⟨wx.heap.size, 1, none⟩) (fun e => by have := (H9.out.1.block _ e).1; simp at this; omega) (by simp) (.slice A9 (q + 1) k9)
              rw [HRn.out]
              exact h, (HBa.out.grown H9.out.2.1 (by simp; omega) (fun b hb => by have := (HOi.out.block b hb).1; omega)).setCell (p := ⟨wx.heap.size, 1, none⟩) (Nat.le_refl _) _⟩
            case measure => simp [intOf]; omega
          · have h88 : ¬ (k : Int) + (q : Int) + 3 < 8 := by omega
            go_wp2_with fail
            go_roundw
            case rel => exact ⟨i + 1, q, _, hlt2, by omega, hkq, by go_num, rfl, HXi.out, HOi.out, HBi.out⟩
            case measure => simp [intOf]; omega
        · have hii : i = R + 1 := by omega
          have hHx : Hid (OpH l A c w wi) := Lib.hid (HH.out.kept (X := fun b => w.heap.size + 2 ≤ b) (Kept.of_below _ HBi.out) (fun b hb => hb))
          have HTi := Lib.hid (HT.out.below HBi.out (by omega))
          have HOwi := Lib.hid (HOw.out.below HBi.out (Nat.le_refl _))
          rcases Nat.eq_zero_or_pos q with hq | hq
          · subst hq
            have HSk := Lib.hid HO.out.skip
            clear hii
            go_wp2_with fail
            go_roundw
            case rel => exact ⟨j + 1, k, t, v, hlt, by go_num, by simp, HSk.out, Hop.out, hHx.out, HTi.out, HOwi.out⟩
            case measure => simp [intOf]; omega
          · have hq9 : (0 : Int) < (q : Int) := by omega
            obtain ⟨Av, cv, e1, _, _, _⟩ := HOw.out.form
            subst e1
            have hfew := HO.out.few
            have hI : I64 kd := by unfold I64; omega
            have HAd := Lib.hid (HO.out.add (l := ⟨kd, runL q (3 + (k : Int))⟩) (j := q) rfl hq (by omega) ⟨hk0, hk4⟩)
            have t4 : wi.cell? ⟨w.heap.size + 2, 4, none⟩ = some (.slice Av t.levels.length cv) := HTi.out.cell 4
            have zt := HTi.out.lt
            have HOa := Lib.hid (HOwi.out.alloc (.cells #[.int .i64 kd, .slice Ao q co] 116))
            have HTa := Lib.hid (HTi.out.alloc (.cells #[.int .i64 kd, .slice Ao q co] 116))
            have HBa := Lib.hid (HBi.out.alloc HBi.out.size (.cells #[.int .i64 kd, .slice Ao q co] 116))
            have HRd : Hid (Dat.rd (wi.alloc (.cells #[.int .i64 kd, .slice Ao q co] 116)) (OwnT (fun _ => False) (w.heap.size + 3) (.slice Av t.levels.length cv) (wi.alloc (.cells #[.int .i64 kd, .slice Ao q co] 116))) (⟨kd, runL q (3 + (k : Int))⟩ : Level) [.int .i64 kd, .slice Ao q co]) := Lib.hid ⟨_, rfl, hI, (HOi.out.alloc _).vl.mono (fun b hb => ⟨.inr (by have h1 := hb.1; simp at h1; omega), fun e1 => by have := (HOw.out.block _ e1).2; have h1 := hb.1; simp at h1; omega, hb.2⟩)⟩
            clear hii hI
            go_wp2_with (at_builtin; (refine wpList_own1 _ rfl _ _ elemLevel rfl rfl HOa.out (⟨kd, runL q (3 + (k : Int))⟩ : Level) [.int .i64 kd, .slice Ao q co] rfl (At.new wi _ _) HRd.out (by omega) (by omega) (by have := HBa.out.size; simp; omega) ?_); (intro v9 w9 hown9 hg9 hat9); (obtain ⟨A9, k9, hv9, _⟩ := hown9.form); (rw [List.length_append] at hv9); (subst hv9); (have hX9 := HTa.out.grown hg9 (fun e => by have := (HOw.out.block _ e.symm).1; omega)); (have c9 := hX9.cell 4); (have f9 := hX9.frozen 4); (have z9 := hX9.lt); (have H9 := Lib.hid (And.intro hown9 (And.intro hg9 hX9))); (clear hown9 hg9 hat9 hX9); (simp at c9))
            go_roundw
            case rel => exact ⟨j + 1, k + q, _, _, hlt, by go_num, by simp, HAd.out, Hop.out, HH.out.kept (X := fun b => w.heap.size + 2 ≤ b) (((Kept.of_below (fun b => w.heap.size + 2 ≤ b) HBa.out).grown H9.out.2.1 (fun b hb => .inl (by have := (HOw.out.block b hb).1; omega))).setCell (p := ⟨w.heap.size + 2, 4, none⟩) (.inl (Nat.le_refl _)) _) (fun b hb => hb), H9.out.2.2.set_ 4 _, H9.out.1.setCell (p := ⟨w.heap.size + 2, 4, none⟩) (fun e => by have h1 : w.heap.size + 3 ≤ w.heap.size + 2 := (H9.out.1.block _ e).1; omega) (by simp) _⟩
            case measure => simp [intOf]; omega
    · have hjj : j = N := by omega
      have t0 : wx.cell? ⟨w.heap.size + 2, 0, none⟩ = some (.int .i64 8) := HT.out.cell 0
      have t1 : wx.cell? ⟨w.heap.size + 2, 1, none⟩ = some (.int .i64 0) := HT.out.cell 1
      have t2 : wx.cell? ⟨w.heap.size + 2, 2, none⟩ = some (.int .i64 t.opn) := HT.out.cell 2
      have t3 : wx.cell? ⟨w.heap.size + 2, 3, none⟩ = some (.int .i64 t.cls) := HT.out.cell 3
      have t4 : wx.cell? ⟨w.heap.size + 2, 4, none⟩ = some v := HT.out.cell 4
      have zt := HT.out.lt
      have zr := HH.out.res.lt
      have r0 := HH.out.res.frozen 0
      have r1 := HH.out.res.frozen 1
      have r2 := HH.out.res.frozen 2
      have r3 := HH.out.res.frozen 3
      have r4 := HH.out.res.frozen 4
      have s0 : wx.cell? ⟨w.heap.size + 1, 0, none⟩ = some (.int .i64 0) := HH.out.res.cell 0
      have s1 : wx.cell? ⟨w.heap.size + 1, 1, none⟩ = some (.int .i64 0) := HH.out.res.cell 1
      have s2 : wx.cell? ⟨w.heap.size + 1, 2, none⟩ = some (.int .i64 0) := HH.out.res.cell 2
      have s3 : wx.cell? ⟨w.heap.size + 1, 3, none⟩ = some (.int .i64 0) := HH.out.res.cell 3
      have s4 : wx.cell? ⟨w.heap.size + 1, 4, none⟩ = some (.slice none 0 0) := HH.out.res.cell 4
      obtain ⟨Av, cv, e1, _, _, _⟩ := HOw.out.form
      subst e1
      obtain ⟨wF, hwF⟩ : ∃ wF : World, wF = (((((wx.setCell ⟨w.heap.size + 1, 0, none⟩ (.int .i64 8)).setCell ⟨w.heap.size + 1, 1, none⟩ (.int .i64 0)).setCell ⟨w.heap.size + 1, 2, none⟩ (.int .i64 t.opn)).setCell ⟨w.heap.size + 1, 3, none⟩ (.int .i64 t.cls)).setCell ⟨w.heap.size + 1, 4, none⟩ (.slice Av t.levels.length cv)) := ⟨_, rfl⟩
      have HK : Hid (Kept (fun b => b = w.heap.size + 1) wx wF) := Lib.hid (by rw [hwF]; exact ((((((Kept.refl (fun b => b = w.heap.size + 1) wx).setCell (p := ⟨w.heap.size + 1, 0, none⟩) (.inl rfl) _).setCell (p := ⟨w.heap.size + 1, 1, none⟩) (.inl rfl) _).setCell (p := ⟨w.heap.size + 1, 2, none⟩) (.inl rfl) _).setCell (p := ⟨w.heap.size + 1, 3, none⟩) (.inl rfl) _).setCell (p := ⟨w.heap.size + 1, 4, none⟩) (.inl rfl) _))
      have HR : Hid (Blk' wF (w.heap.size + 1) 37 #[.int .i64 8, .int .i64 0, .int .i64 t.opn, .int .i64 t.cls, .slice Av t.levels.length cv]) := Lib.hid (by rw [hwF]; exact ((((HH.out.res.set_ 0 _).set_ 1 _).set_ 2 _).set_ 3 _).set_ 4 _)
      have u0 : wF.cell? ⟨w.heap.size + 1, 0, none⟩ = some (.int .i64 8) := HR.out.cell 0
      have u1 : wF.cell? ⟨w.heap.size + 1, 1, none⟩ = some (.int .i64 0) := HR.out.cell 1
      have u2 : wF.cell? ⟨w.heap.size + 1, 2, none⟩ = some (.int .i64 t.opn) := HR.out.cell 2
      have u3 : wF.cell? ⟨w.heap.size + 1, 3, none⟩ = some (.int .i64 t.cls) := HR.out.cell 3
      have u4 : wF.cell? ⟨w.heap.size + 1, 4, none⟩ = some (.slice Av t.levels.length cv) := HR.out.cell 4
      have zF := HR.out.lt
      have HVl := Lib.hid (((HOw.out.kept HK.out (fun b hb h => h.elim id (fun h => by have h1 : b = w.heap.size + 1 := hb; omega))).vl).mono (S' := fun b => w.heap.size ≤ b ∧ b < wF.heap.size) (fun b hb => ⟨by have h1 := hb.1; simp at h1; omega, hb.2⟩))
      have HBe := Lib.hid (bthen HH.out.bel (HK.out.to_below (B := w.heap.size) (fun b hb => by omega) (by omega)) (Nat.le_refl _))
      have HWF := Lib.hid hwF
      have HO4 : Hid (OpsT t 4 k) := Lib.hid ⟨HO.out.terms, HO.out.atom, HO.out.br, by have := HO.out.few; omega, HO.out.run, HO.out.k5, HO.out.kinds⟩
      have HNo : Hid (l = [] → t.opn = -1 ∧ t.levels = []) := Lib.hid (fun h => ⟨Hop.out h, List.eq_nil_of_length_eq_zero (by have h1 := HNl.out h; have := HO.out.few; omega)⟩)
      clear hjj hwF
      go_wp2_with fail
      rw [← HWF.out]
      refine bodyPost_ret (v := .agg #[.int .i64 8, .int .i64 0, .int .i64 t.opn, .int .i64 t.cls, .slice Av t.levels.length cv]) (by simp [results, Try.results25, go_sem, u0, u1, u2, u3, u4]) rfl ?_
      exact ⟨t, _, k, rfl, HO4.out, HNo.out, HVl.out, HBe.out⟩
end Go.Proofs.Ytnphbbhnfkjlcaa
