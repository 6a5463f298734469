/- Contract: useful.words makes a table of least words. -/
import Derived.Test.YtlgchgpplfhneaaDoorQLwS
import Derived.Test.YtlgchgpplfhneaaDoorQp1
import Derived.Deep.Cut
import Derived.Deep.DeepCutAuto
import Derived.Deep.QuietTactic
import Derived.BigQuiet
namespace Go.Proofs.YtlgchgpplfhneaaDoor
open Go.RowKit
set_option linter.unusedVariables false

theorem cmpL_range : ∀ (a b : List Int), I64 (cmpL a b)
  | [], [] => by unfold cmpL I64; omega
  | [], _ :: _ => by unfold cmpL I64; omega
  | _ :: _, [] => by unfold cmpL I64; omega
  | x :: xs, y :: ys => by
    have ih := cmpL_range xs ys
    unfold cmpL
    split
    · unfold I64; omega
    · split
      · unfold I64; omega
      · exact ih
theorem orI_zero (x : Int) : orI [0, x] = x := by
  simp only [orI]
  split <;> simp_all
theorem cmpI_self {a b : Int} (h : a = b) : cmpI a b = 0 := by subst h; simp [cmpI]
/-- A rule whose word is not longer than it may be: it is as long. -/
theorem okR_of {g : Gram} {n : Nat} {L : List Int} {W : List (List Int)} {K : List Bool} (h : SndT g n L W K) (hf : LFix g n L) (hr : RulesIn g n) {q : Rule} (hq : q ∈ g.rules) (hk : knowsB K q.right = true) (h0 : L.getD q.left.toNat 0 ≤ 2000) (hl : ((catW W q.right).length : Int) ≤ L.getD q.left.toNat 0) : okR L W K q := by
  obtain ⟨h1, h2, _⟩ := h.cat q.right (fun s hs => ((hr q hq).2.2.2 s hs).1) hk
  have h3 := hf.le_sum hr hq h2
  exact ⟨hk, by omega, by omega⟩
theorem knowsB_take {K : List Bool} {ss : List Sym} (h : knowsB K ss = true) (m : Nat) : knowsB K (ss.take m) = true := by
  unfold knowsB at *
  rw [List.all_eq_true] at *
  exact fun s hs => h s (List.mem_of_mem_take hs)
theorem catW_take_le (W : List (List Int)) (ss : List Sym) (m : Nat) : (catW W (ss.take m)).length ≤ (catW W ss).length := by
  induction ss generalizing m with
  | nil => simp
  | cons s ss ih =>
    cases m with
    | zero => simp [catW]
    | succ m => simp only [List.take_succ_cons, catW, List.length_append]; have := ih m; omega
def UwR (w : World) (g : Gram) (n OB LB : Nat) (L : List Int) (z gc : Array Value) (W0 : List (List Int)) (K0 : List Bool) (ag i : Value) (wr : World) : Prop :=
  ∃ (j : Nat) (W : List (List Int)) (K : List Bool) (a : Bool), j ≤ g.rules.length ∧ i = .int .i64 j ∧ ag = .bool a ∧ LwJ w g n OB LB L z gc g.rules W0 K0 a j W K wr
def UwS (l : Int) (L : List Int) (OB : Nat) (W : List (List Int)) (K : List Bool) (wi wq : World) (q : Rule) (v ok i : Value) (wr : World) : Prop :=
  ∃ (m : Nat) (b : Bool), m ≤ q.right.length ∧ i = .int .i64 m ∧ ok = .bool b ∧ (b = true → 0 ≤ l ∧ l ≤ 2000 ∧ knowsB K (q.right.take m) = true ∧ ((catW W (q.right.take m)).length : Int) ≤ l) ∧ (b = false → ¬ okR L W K q) ∧ Own wr (fun b => OB + 2 ≤ b ∧ b < wi.heap.size) wq.heap.size 3 v (catW W (q.right.take m)) ∧ Below wq.heap.size wq wr
def RetWords (g : Gram) (n : Nat) (L : List Int) (w : World) (e : Ending) (w' : World) : Prop :=
  ∃ (W : List (List Int)) (K : List Bool) (OB : Nat), e = .returned (.slice (some ⟨OB, 0, none⟩) n n) ∧ SndT g n L W K ∧ StabT g L W K ∧ RowsW w' OB n (OB + 2) W ∧ In8W W ∧ w.heap.size ≤ OB ∧ Below w.heap.size w w'

set_option maxRecDepth 100000 in
set_option maxHeartbeats 20000000 in
theorem words_any (g : Gram) (n : Nat) (A : Option Addr) (c : Nat) (S : Nat → Prop) (w : World) (L : List Int) (LB lc : Nat) (z : Array Value) (hLB : Blk' w LB 3 (icells L ++ z)) (hgn : g.nons = (n : Int)) (hn : 1 ≤ n ∧ n ≤ 10) (hlc : g.rules.length ≤ c) (hc : c ≤ 9223372036854775807) (hA : Els w S g.rules A) (hS : ∀ b, S b → b < w.heap.size)
    (hrl : g.rules.length ≤ 1000) (hrr : RulesIn g n) (h8 : ∀ q ∈ g.rules, ∀ s ∈ q.right, s.term = true → 0 ≤ s.n ∧ s.n < 8) (hL : LFix g n L) :
    Calls Tryd.prog 33 #[.agg #[.int .i64 g.terms, .int .i64 g.nons, .int .i64 g.start, .slice A g.rules.length c], .slice (some ⟨LB, 0, none⟩) n lc] w (RetWords g n L w) := by
  obtain ⟨gt, gn, gs, rs⟩ := g
  dsimp only at *
  subst hgn
  have HLl : Hid (L.length = n) := Lib.hid hL.shape.len
  have HA := Lib.hid hA
  have HS := Lib.hid hS
  have HRR := Lib.hid hrr
  have H8 := Lib.hid h8
  have HLf := Lib.hid hL
  obtain ⟨hn1, hn10⟩ := hn
  have hrl9 : rs.length ≤ 9223372036854775807 := by omega
  have hmk1 := mkWords n (by omega)
  have hmk2 := mkBools n (by omega)
  have zlb : LB < w.heap.size := hLB.lt
  obtain ⟨w2, hw2⟩ : ∃ w2 : World, w2 = ((w.alloc (.cells #[.int .i64 gt, .int .i64 (n : Int), .int .i64 gs, .slice A rs.length c] 25)).alloc (.cells (Array.replicate n (Value.slice none 0 0)) 22)).alloc (.cells (bcells (List.replicate n false)) 4) := ⟨_, rfl⟩
  have HW2 := Lib.hid hw2
  have HS2 : Hid (LwS w ⟨gt, (n : Int), gs, rs⟩ n (w.heap.size + 1) LB L z #[.int .i64 gt, .int .i64 (n : Int), .int .i64 gs, .slice A rs.length c] (List.replicate n []) (List.replicate n false) w2) := Lib.hid (by
    have hb2 : Below w.heap.size w w2 := by rw [hw2]; exact (((Below.refl _ _).alloc (Nat.le_refl _) _).alloc (by simp) _).alloc (by simp; omega) _
    refine ⟨SndT.init _ _ _, In8W.init n, RowsW.made ?_, ?_, hb2, ?_, hLB.below hb2 hLB.lt⟩
    · rw [hw2, List.toArray_replicate]; exact (Blk'.new' _ _ _ (by simp)).alloc _
    · rw [hw2]; exact Blk'.new' _ _ _ (by simp)
    · rw [hw2]; exact ((Blk'.new _ _ _).alloc _).alloc _)
  obtain ⟨M, hM⟩ : ∃ M, M = msr (p8 2000) (List.replicate n []) (List.replicate n false) := ⟨_, rfl⟩
  have HM := Lib.hid hM
  clear hw2 hM hLB hA hS hrr h8 hL
  go_enter Tryd.func33, Tryd.ntmps33
  go_wp2_with fail
  rw [← HW2.out]
  clear HW2
  go_loopg [7] (M + 1) (fun gk ag wr => LwO w ⟨gt, (n : Int), gs, rs⟩ n (w.heap.size + 1) LB L z #[.int .i64 gt, .int .i64 (n : Int), .int .i64 gs, .slice A rs.length c] gk ag wr)
  case atStart => exact ⟨_, _, true, rfl, HS2.out, (fun e => by simp at e), by rw [HM.out]; simp⟩
  case round =>
    obtain ⟨wo, hwo⟩ : ∃ wo : World, wo = wr := ⟨_, rfl⟩
    subst hwo
    obtain ⟨W0, K0, a0, rfl, hs, hst, hgk⟩ := hrel
    have HSo := Lib.hid hs
    have HSt := Lib.hid hst
    have HGk := Lib.hid hgk
    have g3 : wo.cell? ⟨w.heap.size, 3, none⟩ = some (.slice A rs.length c) := hs.gb.cell 3
    clear hs hst hgk HS2 HM
    cases a0
    · go_wp2
      go_ret
      exact ⟨W0, K0, w.heap.size + 1, rfl, HSo.out.snd, HSt.out (by first | exact rfl | exact trivial), HSo.out.rows, HSo.out.in8, by omega, HSo.out.below⟩
    · go_wp2_with fail
      go_loopw [7, 24] (fun ag i wr => UwR w ⟨gt, (n : Int), gs, rs⟩ n (w.heap.size + 1) LB L z #[.int .i64 gt, .int .i64 (n : Int), .int .i64 gs, .slice A rs.length c] W0 K0 ag i wr) (fun _ i _ => rs.length - (intOf i).toNat)
      case atStart => exact ⟨0, W0, K0, false, Nat.zero_le _, rfl, rfl, LwJ.start HSo.out⟩
      case round =>
        obtain ⟨wi, hwi⟩ : ∃ wi : World, wi = wr := ⟨_, rfl⟩
        subst hwi
        obtain ⟨j, W, K, a, hj, rfl, rfl, hJ⟩ := hrel
        have HJ := Lib.hid hJ
        dsimp only at hj
        clear hJ g3
        by_cases hlt : j < rs.length
        · obtain ⟨q, hq⟩ := get_some hlt
          obtain ⟨bq, oq, Aq, cq, rfl, hSb, hbs, hi, hrc, hcr, hEr, hc0, hc1⟩ := (HA.out.belowB HJ.out.1.below HS.out).rule hq
          have hqm := List.mem_of_getElem? hq
          obtain ⟨hl0, hl1, hr4, hsy⟩ := HRR.out q hqm
          have HQ := Lib.hid (And.intro hq (And.intro hqm hsy))
          have H8q := Lib.hid (H8.out q hqm)
          obtain ⟨ql, qr⟩ := q
          dsimp only at hi hrc hcr hEr hc0 hc1 hl0 hl1 hr4 hsy
          have hj0 : (0 : Int) ≤ (j : Int) := by omega
          have hl2 : ql < (n : Int) := by omega
          have hqlen : qr.length ≤ 9223372036854775807 := by omega
          obtain ⟨wq, hwq⟩ : ∃ wq : World, wq = wi.alloc (.cells #[.int .i64 ql, .slice Aq qr.length cq] 52) := ⟨_, rfl⟩
          have HWq := Lib.hid hwq
          have hbq : Below wi.heap.size wi wq := by rw [hwq]; exact (Below.refl _ _).alloc (Nat.le_refl _) _
          have HBq := Lib.hid hbq
          have hzq : wq.heap.size = wi.heap.size + 1 := by rw [hwq]; simp
          have hQ : Blk' wq wi.heap.size 52 #[.int .i64 ql, .slice Aq qr.length cq] := by rw [hwq]; exact Blk'.new _ _ _
          have HQb := Lib.hid hQ
          have q1 : wq.cell? ⟨wi.heap.size, 1, none⟩ = some (.slice Aq qr.length cq) := hQ.cell 1
          have HEq := Lib.hid (hEr.below hbq)
          have HJs := Lib.hid HJ.out.1
          have hzo : w.heap.size + 1 + 1 < wi.heap.size := HJs.out.kb.lt
          obtain ⟨l, hl⟩ := get_some (show ql.toNat < L.length by rw [HLl.out]; exact hl1)
          have cl_ : wq.cell? ⟨LB, ql.toNat, none⟩ = some (.int .i64 l) := ((HJs.out.lb.below hbq HJs.out.lb.lt).cell _).trans ((slack_get (by rw [icells_size, HLl.out]; exact hl1)).trans (icells_get hl))
          have q0' : wq.cell? ⟨wi.heap.size, 0, none⟩ = some (.int .i64 ql) := hQ.cell 0
          have HeL : Hid (L.getD ql.toNat 0 = l) := Lib.hid (by rw [List.getD_eq_getElem?_getD, hl]; rfl)
          have HLc : Hid ((icells L ++ z)[ql.toNat]? = some (.int .i64 l)) := Lib.hid ((slack_get (by rw [icells_size, HLl.out]; exact hl1)).trans (icells_get hl))
          have zLB : LB < wq.heap.size := by omega
          have zLB2 : LB < wi.heap.size + 1 := by omega
          clear hq hqm hsy hbq hEr hi hQ hwq hl
          have hzl : wi.heap.size < wq.heap.size := by omega
          go_upto_region 9 with (fail)
          rw [← HWq.out]
          go_cut [10, 11] (fun v ok wx => ∃ b : Bool, ok = .bool b ∧ (b = true ↔ 0 ≤ l ∧ l ≤ 2000) ∧ Own wx (fun b => w.heap.size + 1 + 2 ≤ b ∧ b < wi.heap.size) wq.heap.size 3 v ([] : List Int) ∧ Below wq.heap.size wq wx)
          case first =>
            have HOw : Hid (∀ wy, wy = wq.alloc (.cells #[] 3) → Own wy.drew (fun b => w.heap.size + 1 + 2 ≤ b ∧ b < wi.heap.size) wq.heap.size 3 (.slice (some ⟨wi.heap.size + 1, 0, none⟩) 0 0) ([] : List Int) ∧ Below wq.heap.size wq wy.drew) := Lib.hid (fun wy hy => by subst hy; exact ⟨by rw [← hzq]; exact (Own.made (cap := 0) _ (Nat.le_refl _) (by omega) rfl).drew, ((Below.refl _ _).alloc (Nat.le_refl _) _).drew⟩)
            by_cases h0 : 0 ≤ l
            · have d0 : decide (0 ≤ l) = true := decide_eq_true h0
              by_cases h1 : l ≤ 2000
              · have d1 : decide (l ≤ 2000) = true := decide_eq_true h1
                go_region
                all_goals
                  go_wp2
                  go_meet
                  exact ⟨true, rfl, ⟨fun _ => ⟨by omega, by omega⟩, fun _ => rfl⟩, (HOw.out _ rfl).1, (HOw.out _ rfl).2⟩
              · have d1 : decide (l ≤ 2000) = false := decide_eq_false h1
                go_region
                all_goals
                  go_wp2
                  go_meet
                  exact ⟨false, rfl, ⟨fun h => by simp at h, fun h => by omega⟩, (HOw.out _ rfl).1, (HOw.out _ rfl).2⟩
            · have d0 : decide (0 ≤ l) = false := decide_eq_false h0
              go_region
              all_goals
                go_wp2
                go_meet
                exact ⟨false, rfl, ⟨fun h => by simp at h, fun h => by omega⟩, (HOw.out _ rfl).1, (HOw.out _ rfl).2⟩
          case rest =>
          obtain ⟨wx, hwx⟩ : ∃ wx : World, wx = wc := ⟨_, rfl⟩
          subst hwx
          obtain ⟨b0, rfl, hb0, hown0, hbw0⟩ := hcut
          have H0 := Lib.hid (And.intro hb0 (And.intro hown0 hbw0))
          have hz0 : wq.heap.size ≤ wx.heap.size := hbw0.size
          have q1' := HQb.out.below hbw0 HQb.out.lt
          have q1x : wx.cell? ⟨wi.heap.size, 1, none⟩ = some (.slice Aq qr.length cq) := q1'.cell 1
          have hzx : wi.heap.size < wx.heap.size := by omega
          clear hb0 hown0 hbw0 q1' cl_ q0' q1
          go_wp2_with fail
          go_loopw [10, 11, 46] (fun v ok i wr => UwS l L (w.heap.size + 1) W K wi wq ⟨ql, qr⟩ v ok i wr) (fun _ _ i _ => qr.length - (intOf i).toNat)
          case atStart =>
            refine ⟨0, b0, Nat.zero_le _, rfl, rfl, fun h => ?_, fun h ho => ?_, H0.out.2.1, H0.out.2.2⟩
            · have h1 := H0.out.1.1 h; exact ⟨h1.1, h1.2, rfl, by simpa [catW] using h1.1⟩
            · have h1 := ho.2.1; have h2 := ho.2.2
              rw [HeL.out] at h1
              have := H0.out.1.2 (by omega)
              rw [h] at this; simp at this
          case round =>
            obtain ⟨wz, hwz⟩ : ∃ wz : World, wz = wr := ⟨_, rfl⟩
            subst hwz
            obtain ⟨k, b, hk, rfl, rfl, hbt, hbf, hown, hbz⟩ := hrel
            dsimp only at hk hbt hown
            obtain ⟨Au, cu, rfl, hu1, hu2, hu3⟩ := hown.form
            have HO := Lib.hid hown
            have HBz := Lib.hid hbz
            have HBf := Lib.hid hbf
            have hsz : wq.heap.size ≤ wz.heap.size := hbz.size
            have hsz2 : wi.heap.size < wz.heap.size := by omega
            have hko : w.heap.size + 1 < wz.heap.size := by omega
            have hko2 : w.heap.size + 1 + 1 < wz.heap.size := by omega
            have hSz := (HJs.out.next HBq.out).next HBz.out
            have HSz := Lib.hid hSz
            have hQz := HQb.out.below hbz HQb.out.lt
            have q0 : wz.cell? ⟨wi.heap.size, 0, none⟩ = some (.int .i64 ql) := hQz.cell 0
            have HEz := Lib.hid (HEq.out.below hbz)
            have HBiz : Hid (Below wi.heap.size wi wz) := Lib.hid (bthen HBq.out hbz (by omega))
            have hcl := (HJs.out.in8.cat (qr.take k) (fun s hs => H8q.out s (List.mem_of_mem_take hs))).2
            have hcl2 : (catW W (qr.take k)).length ≤ 8000 := by simp only [List.length_take] at hcl; omega
            clear hown hbz hSz hQz hcl hu3 hbf H0
            by_cases hml : k < qr.length
            · obtain ⟨s, hs⟩ := get_some hml
              have Hts := Lib.hid (take_snoc hs)
              have hsr := HQ.out.2.2 s (List.mem_of_getElem? hs)
              have hs8 := H8q.out s (List.mem_of_getElem? hs)
              have HMs := Lib.hid (List.mem_of_getElem? hs)
              obtain ⟨bs, os, rfl, hSs, hbss, hsi, hsc0, hsc1⟩ := HEz.out.sym hs
              have HI := Lib.hid hsi
              obtain ⟨st, sn⟩ := s
              dsimp only at *
              have hk0 : (0 : Int) ≤ (k : Int) := by omega
              have hs0 : 0 ≤ sn := hsr.1
              clear hs hsi
              cases b
              · have HN : Hid (Stab1 L W K ⟨ql, qr⟩) := Lib.hid (fun ho => absurd ho (HBf.out rfl))
                clear hbt hsr hs8
                go_wp2_with fail
                go_quiet (fail)
                go_wp2
                go_roundw
                case rel => exact ⟨j + 1, W, K, a, hlt, by go_num, rfl, HJ.out.no HQ.out.1 HN.out (bthen HBiz.out (by first | exact below_drewN ((Below.refl _ _).alloc (Nat.le_refl _) _) _ | exact below_drewN (((Below.refl _ _).drew).alloc (Nat.le_refl _) _) _ | exact below_drewN (Below.refl _ _) _ | exact Below.refl _ _ | exact (Below.refl _ _).drew | exact (Below.refl _ _).drew.drew | exact (Below.refl _ _).alloc (Nat.le_refl _) _ | exact (Below.refl _ _).drew.alloc (Nat.le_refl _) _ | exact ((Below.refl _ _).drew.alloc (Nat.le_refl _) _).drew) HBiz.out.size)⟩
                case measure => simp [intOf]; omega
              · obtain ⟨hl00, hl2k, hkn, hlen⟩ := hbt (by first | exact rfl | exact trivial)
                have HKn := Lib.hid hkn
                clear hbt hkn
                cases st
                · have hs1 : sn.toNat < n := hsr.2 rfl
                  have hs2 : sn < (n : Int) := by omega
                  obtain ⟨y, hy⟩ := get_some (show sn.toNat < W.length by rw [HJs.out.snd.lw]; exact hs1)
                  obtain ⟨Ay, cy, cyy, hy1, hy2, hyE⟩ := HJs.out.rows.at_below HBiz.out hy
                  obtain ⟨v, hv⟩ := get_some (show sn.toNat < K.length by rw [HJs.out.snd.lk]; exact hs1)
                  have cv : wz.cell? ⟨w.heap.size + 1 + 1, sn.toNat, none⟩ = some (.bool v) := (HSz.out.kb.cell _).trans (bcells_get hv)
                  have hyl : y.length ≤ 2000 := (HJs.out.in8 y (List.mem_of_getElem? hy)).2
                  have HyE : Hid (Els (wz.alloc (.cells #[.bool false, .int .i64 sn] 54)) (OwnT (fun b => w.heap.size + 1 + 2 ≤ b ∧ b < wi.heap.size) wq.heap.size (.slice Au (catW W (qr.take k)).length cu) (wz.alloc (.cells #[.bool false, .int .i64 sn] 54))) y Ay) := Lib.hid ((hyE.below ((Below.refl _ _).alloc (Nat.le_refl _) _)).own (HO.out.alloc _) (fun b hb => by have := hb.2; omega) (by simp; omega))
                  have HOa := Lib.hid (HO.out.alloc (.cells #[.bool false, .int .i64 sn] 54))
                  have HBa2 := Lib.hid (HBz.out.alloc (by omega) (.cells #[.bool false, .int .i64 sn] 54))
                  obtain ⟨u', hu'⟩ : ∃ u', u' = catW W (qr.take (k + 1)) := ⟨_, rfl⟩
                  have HCs := Lib.hid (show catW W (qr.take k) ++ y = u' by rw [hu', Hts.out, catW_snoc]; unfold pW; simp only [Bool.false_eq_true, if_false]; rw [List.getD_eq_getElem?_getD, hy]; rfl)
                  have HKs := Lib.hid (show knowsB K (qr.take (k + 1)) = (knowsB K (qr.take k) && v) by rw [Hts.out, knowsB_snoc]; simp only [Bool.false_or]; rw [List.getD_eq_getElem?_getD, hv]; rfl)
                  have HU' := Lib.hid hu'
                  have hul' : u'.length ≤ 10000 := by rw [← HCs.out, List.length_append]; omega
                  clear hy hv hyE hsr hs8 hu'
                  cases v
                  · have HN : Hid (Stab1 L W K ⟨ql, qr⟩) := Lib.hid (fun ho => by have h3 := knowsB_take ho.1 (k + 1); dsimp only at h3; rw [HKs.out] at h3; simp at h3)
                    go_wp2_with fail
                    go_quiet (fail)
                    go_wp2
                    go_roundw
                    case rel => exact ⟨j + 1, W, K, a, hlt, by go_num, rfl, HJ.out.no HQ.out.1 HN.out (bthen HBiz.out (by first | exact below_drewN ((Below.refl _ _).alloc (Nat.le_refl _) _) _ | exact below_drewN (((Below.refl _ _).drew).alloc (Nat.le_refl _) _) _ | exact below_drewN (Below.refl _ _) _ | exact Below.refl _ _ | exact (Below.refl _ _).drew | exact (Below.refl _ _).drew.drew | exact (Below.refl _ _).alloc (Nat.le_refl _) _ | exact (Below.refl _ _).drew.alloc (Nat.le_refl _) _ | exact ((Below.refl _ _).drew.alloc (Nat.le_refl _) _).drew) HBiz.out.size)⟩
                    case measure => simp [intOf]; omega
                  · go_wp2_with (at_builtin; (refine wpList_ownMany _ rfl _ _ elemInt rfl rfl HOa.out y rfl rfl HyE.out (by omega) (by omega) (by simp; omega) ?_); (intro v8 w8 hown8 hg8 hat8); (rw [HCs.out] at hown8); (have hB8 := bgrown HBa2.out hg8 HOa.out (Nat.le_refl _) (by simp; omega)); (have q8 : w8.cell? ⟨wi.heap.size, 0, none⟩ = some (.int .i64 ql) := (HQb.out.below hB8 HQb.out.lt).cell 0); (have l8 : w8.cell? ⟨LB, ql.toNat, none⟩ = some (.int .i64 l) := (((HJs.out.next HBq.out).next hB8).lb.cell _).trans HLc.out); (have z8 : wq.heap.size ≤ w8.heap.size := hB8.size); (obtain ⟨A8, c8, hv8, _⟩ := hown8.form); (subst hv8); (have H8' := Lib.hid (And.intro hown8 hB8)); (clear hown8 hg8 hat8 hB8))
                    go_roundw
                    case rel =>
                      refine ⟨k + 1, _, hml, by go_num, rfl, fun h => ?_, fun h ho => ?_, by show Own _ _ _ _ _ (catW W (qr.take (k + 1))); rw [← HU'.out]; exact H8'.out.1, H8'.out.2⟩
                      · have h := of_decide_eq_true h; exact ⟨hl00, hl2k, by show knowsB K (qr.take (k + 1)) = true; rw [HKs.out, HKn.out]; rfl, by show ((catW W (qr.take (k + 1))).length : Int) ≤ l; rw [← HU'.out]; exact h⟩
                      · have h := of_decide_eq_false h; have h3 := catW_take_le W qr (k + 1); have h4 := ho.2.1; dsimp only at h4; rw [HeL.out] at h4; rw [← HU'.out] at h3; omega
                    case measure => simp [intOf]; omega
                · obtain ⟨u', hu'⟩ : ∃ u', u' = catW W (qr.take (k + 1)) := ⟨_, rfl⟩
                  have HCs := Lib.hid (show catW W (qr.take k) ++ [sn] = u' by rw [hu', Hts.out, catW_snoc]; rfl)
                  have HKs := Lib.hid (show knowsB K (qr.take (k + 1)) = (knowsB K (qr.take k) && true) by rw [Hts.out, knowsB_snoc]; simp)
                  have HOa := Lib.hid ((HO.out.alloc (.cells #[.bool true, .int .i64 sn] 54)).alloc (.cells #[.int .i64 sn] 3))
                  have HBa2 := Lib.hid ((HBz.out.alloc (by omega) (.cells #[.bool true, .int .i64 sn] 54)).alloc (by simp; omega) (.cells #[.int .i64 sn] 3))
                  have HAt := Lib.hid (at_new1 wz [.int .i64 sn] 3 (.cells #[.bool true, .int .i64 sn] 54))
                  have HU' := Lib.hid hu'
                  have hul' : u'.length ≤ 10000 := by rw [← HCs.out, List.length_append]; simp; omega
                  clear hsr hs8 hu'
                  go_wp2_with (at_builtin; (refine wpList_own1 _ rfl _ _ elemInt rfl rfl HOa.out sn [.int .i64 sn] rfl HAt.out ⟨rfl, HI.out⟩ (by omega) (by omega) (by simp; omega) ?_); (intro v8 w8 hown8 hg8 hat8); (rw [HCs.out] at hown8); (have hB8 := bgrown HBa2.out hg8 HOa.out (Nat.le_refl _) (by simp; omega)); (have q8 : w8.cell? ⟨wi.heap.size, 0, none⟩ = some (.int .i64 ql) := (HQb.out.below hB8 HQb.out.lt).cell 0); (have l8 : w8.cell? ⟨LB, ql.toNat, none⟩ = some (.int .i64 l) := (((HJs.out.next HBq.out).next hB8).lb.cell _).trans HLc.out); (have z8 : wq.heap.size ≤ w8.heap.size := hB8.size); (obtain ⟨A8, c8, hv8, _⟩ := hown8.form); (subst hv8); (have H8' := Lib.hid (And.intro hown8 hB8)); (clear hown8 hg8 hat8 hB8))
                  go_roundw
                  case rel =>
                    refine ⟨k + 1, _, hml, by go_num, rfl, fun h => ?_, fun h ho => ?_, by show Own _ _ _ _ _ (catW W (qr.take (k + 1))); rw [← HU'.out]; exact H8'.out.1, H8'.out.2⟩
                    · have h := of_decide_eq_true h; exact ⟨hl00, hl2k, by show knowsB K (qr.take (k + 1)) = true; rw [HKs.out, HKn.out]; rfl, by show ((catW W (qr.take (k + 1))).length : Int) ≤ l; rw [← HU'.out]; exact h⟩
                    · have h := of_decide_eq_false h; have h3 := catW_take_le W qr (k + 1); have h4 := ho.2.1; dsimp only at h4; rw [HeL.out] at h4; rw [← HU'.out] at h3; omega
                  case measure => simp [intOf]; omega
            · have hE : qr.take k = qr := List.take_of_length_le (by omega)
              rw [hE] at HO hu1 hcl2 hbt ⊢
              obtain ⟨y, hy⟩ := get_some (show ql.toNat < W.length by rw [HJs.out.snd.lw]; exact hl1)
              obtain ⟨v, hv⟩ := get_some (show ql.toNat < K.length by rw [HJs.out.snd.lk]; exact hl1)
              have cv : wz.cell? ⟨w.heap.size + 1 + 1, ql.toNat, none⟩ = some (.bool v) := (HSz.out.kb.cell _).trans (bcells_get hv)
              have fv := HSz.out.kb.frozen ql.toNat
              have fy := HSz.out.rows.frozen ql.toNat
              obtain ⟨Ay, cy, cyy, hy1, hy2, hyE⟩ := HSz.out.rows.at_ hy
              have HyEd := Lib.hid (hyE.below ((Below.refl _ _).drew : Below wz.heap.size wz wz.drew))
              have hyl : y.length ≤ 2000 := (HJs.out.in8 y (List.mem_of_getElem? hy)).2
              have eK : K.getD ql.toNat false = v := by rw [List.getD_eq_getElem?_getD, hv]; rfl
              have eW : W.getD ql.toNat [] = y := by rw [List.getD_eq_getElem?_getD, hy]; rfl
              obtain ⟨u, hu⟩ : ∃ u, u = catW W qr := ⟨_, rfl⟩
              have HOk : Hid (okR L W K ⟨ql, qr⟩ ↔ b = true) := Lib.hid ⟨fun ho => by
                cases b
                · exact absurd ho (HBf.out rfl)
                · rfl, fun h => by
                obtain ⟨h1, h2, h3, h4⟩ := hbt h
                exact okR_of (q := ⟨ql, qr⟩) HJs.out.snd HLf.out HRR.out HQ.out.2.1 h3 (by show L.getD ql.toNat 0 ≤ 2000; rw [HeL.out]; exact h2) (by show _ ≤ L.getD ql.toNat 0; rw [HeL.out]; exact h4)⟩
              have HSt1 : Hid ((b = true → v = true ∧ leW y u) → Stab1 L W K ⟨ql, qr⟩) := Lib.hid (fun h ho => by
                have h2 := h (HOk.out.1 ho)
                refine ⟨eK.trans h2.1, ?_⟩
                show leW (W.getD ql.toNat []) (catW W qr)
                rw [eW, ← hu]; exact h2.2)
              have HLy : Hid (b = true → v = true → (u.length : Int) = (y.length : Int)) := Lib.hid (fun h hvt => by
                have h2 := (HOk.out.2 h).2.1
                obtain ⟨_, _, _, h4, _⟩ := HJs.out.snd.known ql.toNat (eK.trans hvt)
                rw [eW] at h4
                dsimp only at h2
                rw [← hu] at h2
                omega)
              have h8u : In8 u := by rw [hu]; exact (HJs.out.in8.cat qr H8q.out).1
              have HYs : Hid (∀ A1 c1, b = true → (v = true → cmpL u y < 0) → u.length ≤ c1 → c1 ≤ 9223372036854775807 → Els wz (fun b => w.heap.size + 1 + 2 ≤ b ∧ b < wz.heap.size) u A1 →
                  ∃ W' K', ∀ wy, Below wz.heap.size wz wy → LwJ w ⟨gt, (n : Int), gs, rs⟩ n (w.heap.size + 1) LB L z #[.int .i64 gt, .int .i64 (n : Int), .int .i64 gs, .slice (some ⟨bq, oq, none⟩) rs.length c] rs W0 K0 true (j + 1) W' K' ((wy.setCell ⟨w.heap.size + 1, ql.toNat, none⟩ (.slice A1 u.length c1)).setCell ⟨w.heap.size + 1 + 1, ql.toNat, none⟩ (.bool true))) := Lib.hid (fun A1 c1 ho hb hc1 hc2 hE1 => ⟨_, _, fun wy hwy => by
                have h := HJ.out.yes (q := ⟨ql, qr⟩) HQ.out.1 HRR.out HQ.out.2.1 (HOk.out.2 ho) (by rw [← hu]; exact h8u) (by intro hk; rw [← hu]; show cmpL u (W.getD ql.toNat []) < 0; rw [eW]; exact hb (by rw [← eK]; exact hk)) (bthen HBiz.out hwy HBiz.out.size) (by omega) (by omega) (A := A1) (c := c1) (by rw [← hu]; exact hc1) hc2 (by rw [← hu]; exact (hE1.below hwy).keep (fun _ _ _ => rfl) (fun b hb => ⟨hb.1, by have := hb.2; have := hwy.size; omega⟩))
                rw [← hu] at h
                exact h⟩)
              rw [← hu] at HO hu1 hcl2 ⊢
              obtain ⟨A9, c9, hv9, hu8, hu9, hE9⟩ := HO.out.vl.slice
              injection hv9 with e1 e2 e3
              subst e1; subst e3
              have HE9 : Hid (Els wz (fun b => w.heap.size + 1 + 2 ≤ b ∧ b < wz.heap.size) u Au) := Lib.hid (hE9.keep (fun _ _ _ => rfl) (fun b hb => ⟨by have := hb.1; omega, hb.2⟩))
              have HE9d := Lib.hid (HE9.out.below ((Below.refl _ _).drew : Below wz.heap.size wz wz.drew))
              clear hy hv hyE eK eW hu h8u hE9 e2 hE hbt
              cases b
              · have HN := Lib.hid (HSt1.out (fun h => by simp at h))
                go_wp2_with fail
                go_quiet (fail)
                go_wp2
                go_roundw
                case rel => exact ⟨j + 1, W, K, a, hlt, by go_num, rfl, HJ.out.no HQ.out.1 HN.out (bthen HBiz.out (by first | exact below_drewN ((Below.refl _ _).alloc (Nat.le_refl _) _) _ | exact below_drewN (((Below.refl _ _).drew).alloc (Nat.le_refl _) _) _ | exact below_drewN (Below.refl _ _) _ | exact Below.refl _ _ | exact (Below.refl _ _).drew | exact (Below.refl _ _).drew.drew | exact (Below.refl _ _).alloc (Nat.le_refl _) _ | exact (Below.refl _ _).drew.alloc (Nat.le_refl _) _ | exact ((Below.refl _ _).drew.alloc (Nat.le_refl _) _).drew) HBiz.out.size)⟩
                case measure => simp [intOf]; omega
              · cases v
                · obtain ⟨W', K', hJ'⟩ := HYs.out Au cu rfl (fun e => by simp at e) hu8 hu9 HE9.out
                  have HJ' := Lib.hid hJ'
                  clear hJ'
                  go_wp2_with fail
                  refine wp_region_noPanic ?_
                  refine wp_region_held_drew (S := (fun w' => w'.cell? ⟨w.heap.size + 1 + 1, ql.toNat, none⟩ = some (.bool false) ∧ w'.cell? ⟨wi.heap.size, 0, none⟩ = some (.int .i64 ql))) (by kernel_rfl) ?hz (fun hHeld => ?bz)
                  case hz => ((try dsimp only); go_keep)
                  refine take_run (i := 0) (v := ?vz0) rfl (by kernel_rfl) (by kernel_rfl) (by kernel_rfl) (fun _ _ _ h => h) (by rfl) ?yz0 (by assumption) ?rz0
                  case yz0 => (intro w hSw; (try dsimp only at hSw); go_simp; try with_reducible rfl)
                  try simp only [Act.put, List.setIfInBounds_toArray, List.set_cons_zero, List.set_cons_succ]
                  refine take_run (i := 1) (v := ?vz1) rfl (by kernel_rfl) (by kernel_rfl) (by kernel_rfl) (fun _ _ _ h => h) (by rfl) ?yz1 (by assumption) ?rz1
                  case yz1 => (intro w hSw; (try dsimp only at hSw); go_simp; try with_reducible rfl)
                  try simp only [Act.put, List.setIfInBounds_toArray, List.set_cons_zero, List.set_cons_succ]
                  refine take_run (i := 2) (v := ?vz2) rfl (by kernel_rfl) (by kernel_rfl) (by kernel_rfl) (fun _ _ _ h => h) (by rfl) ?yz2 (by assumption) ?rz2
                  case yz2 => (intro w hSw; (try dsimp only at hSw); go_simp; try with_reducible rfl)
                  try simp only [Act.put, List.setIfInBounds_toArray, List.set_cons_zero, List.set_cons_succ]
                  refine take_run (i := 3) (v := ?vz3) rfl (by kernel_rfl) (by kernel_rfl) (by kernel_rfl) (fun _ _ _ h => h) (by rfl) ?yz3 (by assumption) ?rz3
                  case yz3 => (intro w hSw; (try dsimp only at hSw); go_simp; try with_reducible rfl)
                  try simp only [Act.put, List.setIfInBounds_toArray, List.set_cons_zero, List.set_cons_succ]
                  refine take_run (i := 4) (v := ?vz4) rfl (by kernel_rfl) (by kernel_rfl) (by kernel_rfl) (fun _ _ _ h => h) (by rfl) ?yz4 (by assumption) ?rz4
                  case yz4 => (intro w hSw; (try dsimp only at hSw); go_simp; try with_reducible rfl)
                  try simp only [Act.put, List.setIfInBounds_toArray, List.set_cons_zero, List.set_cons_succ]
                  refine take_run (i := 5) (v := ?vz5) rfl (by kernel_rfl) (by kernel_rfl) (by kernel_rfl) (fun _ _ _ h => h) (by rfl) ?yz5 (by assumption) ?rz5
                  case yz5 => (intro w hSw; (try dsimp only at hSw); go_simp; try with_reducible rfl)
                  try simp only [Act.put, List.setIfInBounds_toArray, List.set_cons_zero, List.set_cons_succ]
                  refine take_run (i := 6) (v := .bool false) rfl (by kernel_rfl) (by kernel_rfl) (by kernel_rfl) (fun _ _ _ h => h) (by rfl) ?yz6 (by assumption) ?rz6
                  case yz6 => (intro w hSw; (try dsimp only at hSw); try go_simp; first | done | omega | (simp []; done) | trace_state)
                  try simp only [Act.put, List.setIfInBounds_toArray, List.set_cons_zero, List.set_cons_succ]
                  refine take_run (i := 7) (v := .bool true) rfl (by kernel_rfl) (by kernel_rfl) (by kernel_rfl) (fun _ _ _ h => h) (by rfl) ?yz7 (by assumption) ?rz7
                  case yz7 => (intro w hSw; (try dsimp only at hSw); try go_simp; first | done | omega | (simp []; done) | trace_state)
                  try simp only [Act.put, List.setIfInBounds_toArray, List.set_cons_zero, List.set_cons_succ]
                  refine take_run (i := 8) (v := ?vz8) rfl (by kernel_rfl) (by kernel_rfl) (by kernel_rfl) (fun _ _ _ h => h) (by rfl) ?yz8 (by assumption) ?rz8
                  case yz8 => (intro w hSw; (try dsimp only at hSw); go_simp; try with_reducible rfl)
                  try simp only [Act.put, List.setIfInBounds_toArray, List.set_cons_zero, List.set_cons_succ]
                  refine take_bar (i := 9) rfl (by kernel_rfl) (by kernel_rfl) (by kernel_rfl) (fun _ _ _ h => h) (by rfl) (by assumption) ?_
                  try simp only [Act.put, List.setIfInBounds_toArray, List.set_cons_zero, List.set_cons_succ]
                  refine take_bar (i := 10) rfl (by kernel_rfl) (by kernel_rfl) (by kernel_rfl) (fun _ _ _ h => h) (by rfl) (by assumption) ?_
                  try simp only [Act.put, List.setIfInBounds_toArray, List.set_cons_zero, List.set_cons_succ]
                  refine take_bar (i := 11) rfl (by kernel_rfl) (by kernel_rfl) (by kernel_rfl) (fun _ _ _ h => h) (by rfl) (by assumption) ?_
                  try simp only [Act.put, List.setIfInBounds_toArray, List.set_cons_zero, List.set_cons_succ]
                  refine take_bar (i := 12) rfl (by kernel_rfl) (by kernel_rfl) (by kernel_rfl) (fun _ _ _ h => h) (by rfl) (by assumption) ?_
                  try simp only [Act.put, List.setIfInBounds_toArray, List.set_cons_zero, List.set_cons_succ]
                  refine take_bar (i := 13) rfl (by kernel_rfl) (by kernel_rfl) (by kernel_rfl) (fun _ _ _ h => h) (by rfl) (by assumption) ?_
                  try simp only [Act.put, List.setIfInBounds_toArray, List.set_cons_zero, List.set_cons_succ]
                  refine take_bar (i := 14) rfl (by kernel_rfl) (by kernel_rfl) (by kernel_rfl) (fun _ _ _ h => h) (by rfl) (by assumption) ?_
                  try simp only [Act.put, List.setIfInBounds_toArray, List.set_cons_zero, List.set_cons_succ]
                  refine take_bar (i := 15) rfl (by kernel_rfl) (by kernel_rfl) (by kernel_rfl) (fun _ _ _ h => h) (by rfl) (by assumption) ?_
                  try simp only [Act.put, List.setIfInBounds_toArray, List.set_cons_zero, List.set_cons_succ]
                  refine take_bar (i := 16) rfl (by kernel_rfl) (by kernel_rfl) (by kernel_rfl) (fun _ _ _ h => h) (by rfl) (by assumption) ?_
                  try simp only [Act.put, List.setIfInBounds_toArray, List.set_cons_zero, List.set_cons_succ]
                  refine take_bar (i := 17) rfl (by kernel_rfl) (by kernel_rfl) (by kernel_rfl) (fun _ _ _ h => h) (by rfl) (by assumption) ?_
                  try simp only [Act.put, List.setIfInBounds_toArray, List.set_cons_zero, List.set_cons_succ]
                  refine take_bar (i := 18) rfl (by kernel_rfl) (by kernel_rfl) (by kernel_rfl) (fun _ _ _ h => h) (by rfl) (by assumption) ?_
                  try simp only [Act.put, List.setIfInBounds_toArray, List.set_cons_zero, List.set_cons_succ]
                  refine take_bar (i := 19) rfl (by kernel_rfl) (by kernel_rfl) (by kernel_rfl) (fun _ _ _ h => h) (by rfl) (by assumption) ?_
                  try simp only [Act.put, List.setIfInBounds_toArray, List.set_cons_zero, List.set_cons_succ]
                  refine take_bar (i := 20) rfl (by kernel_rfl) (by kernel_rfl) (by kernel_rfl) (fun _ _ _ h => h) (by rfl) (by assumption) ?_
                  try simp only [Act.put, List.setIfInBounds_toArray, List.set_cons_zero, List.set_cons_succ]
                  refine take_bar (i := 21) rfl (by kernel_rfl) (by kernel_rfl) (by kernel_rfl) (fun _ _ _ h => h) (by rfl) (by assumption) ?_
                  try simp only [Act.put, List.setIfInBounds_toArray, List.set_cons_zero, List.set_cons_succ]
                  refine take_bar (i := 22) rfl (by kernel_rfl) (by kernel_rfl) (by kernel_rfl) (fun _ _ _ h => h) (by rfl) (by assumption) ?_
                  try simp only [Act.put, List.setIfInBounds_toArray, List.set_cons_zero, List.set_cons_succ]
                  refine take_bar (i := 23) rfl (by kernel_rfl) (by kernel_rfl) (by kernel_rfl) (fun _ _ _ h => h) (by rfl) (by assumption) ?_
                  try simp only [Act.put, List.setIfInBounds_toArray, List.set_cons_zero, List.set_cons_succ]
                  refine take_bar (i := 24) rfl (by kernel_rfl) (by kernel_rfl) (by kernel_rfl) (fun _ _ _ h => h) (by rfl) (by assumption) ?_
                  try simp only [Act.put, List.setIfInBounds_toArray, List.set_cons_zero, List.set_cons_succ]
                  refine take_bar (i := 25) rfl (by kernel_rfl) (by kernel_rfl) (by kernel_rfl) (fun _ _ _ h => h) (by rfl) (by assumption) ?_
                  try simp only [Act.put, List.setIfInBounds_toArray, List.set_cons_zero, List.set_cons_succ]
                  refine take_bar (i := 26) rfl (by kernel_rfl) (by kernel_rfl) (by kernel_rfl) (fun _ _ _ h => h) (by rfl) (by assumption) ?_
                  try simp only [Act.put, List.setIfInBounds_toArray, List.set_cons_zero, List.set_cons_succ]
                  refine take_bar (i := 27) rfl (by kernel_rfl) (by kernel_rfl) (by kernel_rfl) (fun _ _ _ h => h) (by rfl) (by assumption) ?_
                  try simp only [Act.put, List.setIfInBounds_toArray, List.set_cons_zero, List.set_cons_succ]
                  refine take_run (i := 28) (v := ?vz28) rfl (by kernel_rfl) (by kernel_rfl) (by kernel_rfl) (fun _ _ _ h => h) (by rfl) ?yz28 (by assumption) ?rz28
                  case yz28 => (intro w hSw; (try dsimp only at hSw); go_simp; try with_reducible rfl)
                  try simp only [Act.put, List.setIfInBounds_toArray, List.set_cons_zero, List.set_cons_succ]
                  refine take_run (i := 29) (v := ?vz29) rfl (by kernel_rfl) (by kernel_rfl) (by kernel_rfl) (fun _ _ _ h => h) (by rfl) ?yz29 (by assumption) ?rz29
                  case yz29 => (intro w hSw; (try dsimp only at hSw); go_simp; try with_reducible rfl)
                  try simp only [Act.put, List.setIfInBounds_toArray, List.set_cons_zero, List.set_cons_succ]
                  refine wpAnyH_done (by kernel_rfl) ?_ _
                  refine NoPanic.normal ?_
                  have zs1 : (wz.setCell ⟨w.heap.size + 1, ql.toNat, none⟩ (.slice Au u.length cu)).cell? ⟨wi.heap.size, 0, none⟩ = some (.int .i64 ql) := (((Kept.refl (fun b => b = w.heap.size + 1) wz).setCell (p := ⟨w.heap.size + 1, ql.toNat, none⟩) (.inl rfl) _).cell (p := ⟨wi.heap.size, 0, none⟩) (by simp; omega) (by show ¬ wi.heap.size = w.heap.size + 1; omega)).trans q0
                  have zs2 : ((wz.setCell ⟨w.heap.size + 1, ql.toNat, none⟩ (.slice Au u.length cu)).setCell ⟨w.heap.size + 1 + 1, ql.toNat, none⟩ (.bool true)).cell? ⟨wi.heap.size, 0, none⟩ = some (.int .i64 ql) := (((Kept.refl (fun b => b = w.heap.size + 1 + 1) (wz.setCell ⟨w.heap.size + 1, ql.toNat, none⟩ (.slice Au u.length cu))).setCell (p := ⟨w.heap.size + 1 + 1, ql.toNat, none⟩) (.inl rfl) _).cell (p := ⟨wi.heap.size, 0, none⟩) (by simp [World.setCell]; omega) (by show ¬ wi.heap.size = w.heap.size + 1 + 1; omega)).trans zs1
                  go_wp2_with fail
                  refine wp_region_noPanic ?_
                  refine wp_region_held_drew (S := (fun w' => w'.cell? ⟨wi.heap.size, 0, none⟩ = some (.int .i64 ql))) (by kernel_rfl) ?hs (fun hHeld => ?bs)
                  case hs => ((try dsimp only); go_keep)
                  refine take_run (i := 0) (v := ?vs0) rfl (by kernel_rfl) (by kernel_rfl) (by kernel_rfl) (fun _ _ _ h => h) (by rfl) ?ys0 (by assumption) ?rs0
                  case ys0 => (intro w hSw; (try dsimp only at hSw); go_simp; try with_reducible rfl)
                  try simp only [Act.put, List.setIfInBounds_toArray, List.set_cons_zero, List.set_cons_succ]
                  refine take_run (i := 1) (v := ?vs1) rfl (by kernel_rfl) (by kernel_rfl) (by kernel_rfl) (fun _ _ _ h => h) (by rfl) ?ys1 (by assumption) ?rs1
                  case ys1 => (intro w hSw; (try dsimp only at hSw); go_simp; try with_reducible rfl)
                  try simp only [Act.put, List.setIfInBounds_toArray, List.set_cons_zero, List.set_cons_succ]
                  refine take_run (i := 2) (v := ?vs2) rfl (by kernel_rfl) (by kernel_rfl) (by kernel_rfl) (fun _ _ _ h => h) (by rfl) ?ys2 (by assumption) ?rs2
                  case ys2 => (intro w hSw; (try dsimp only at hSw); go_simp; try with_reducible rfl)
                  try simp only [Act.put, List.setIfInBounds_toArray, List.set_cons_zero, List.set_cons_succ]
                  refine take_run (i := 3) (v := ?vs3) rfl (by kernel_rfl) (by kernel_rfl) (by kernel_rfl) (fun _ _ _ h => h) (by rfl) ?ys3 (by assumption) ?rs3
                  case ys3 => (intro w hSw; (try dsimp only at hSw); go_simp; try with_reducible rfl)
                  try simp only [Act.put, List.setIfInBounds_toArray, List.set_cons_zero, List.set_cons_succ]
                  refine take_run (i := 4) (v := ?vs4) rfl (by kernel_rfl) (by kernel_rfl) (by kernel_rfl) (fun _ _ _ h => h) (by rfl) ?ys4 (by assumption) ?rs4
                  case ys4 => (intro w hSw; (try dsimp only at hSw); go_simp; try with_reducible rfl)
                  try simp only [Act.put, List.setIfInBounds_toArray, List.set_cons_zero, List.set_cons_succ]
                  refine take_run (i := 5) (v := ?vs5) rfl (by kernel_rfl) (by kernel_rfl) (by kernel_rfl) (fun _ _ _ h => h) (by rfl) ?ys5 (by assumption) ?rs5
                  case ys5 => (intro w hSw; (try dsimp only at hSw); go_simp; try with_reducible rfl)
                  try simp only [Act.put, List.setIfInBounds_toArray, List.set_cons_zero, List.set_cons_succ]
                  refine take_run (i := 6) (v := ?vs6) rfl (by kernel_rfl) (by kernel_rfl) (by kernel_rfl) (fun _ _ _ h => h) (by rfl) ?ys6 (by assumption) ?rs6
                  case ys6 => (intro w hSw; (try dsimp only at hSw); go_simp; try with_reducible rfl)
                  try simp only [Act.put, List.setIfInBounds_toArray, List.set_cons_zero, List.set_cons_succ]
                  refine take_run (i := 7) (v := ?vs7) rfl (by kernel_rfl) (by kernel_rfl) (by kernel_rfl) (fun _ _ _ h => h) (by rfl) ?ys7 (by assumption) ?rs7
                  case ys7 => (intro w hSw; (try dsimp only at hSw); go_simp; try with_reducible rfl)
                  try simp only [Act.put, List.setIfInBounds_toArray, List.set_cons_zero, List.set_cons_succ]
                  refine take_call (i := 8) rfl (by kernel_rfl) (by rfl) (fun Kq hK => ?_)
                  go_simp
                  refine hK.out _ _ ?hs8 (fun hHeld => ?rs8)
                  case hs8 => ((try dsimp only); go_keep)
                  clear hK Kq
                  try simp only [Act.put, List.setIfInBounds_toArray, List.set_cons_zero, List.set_cons_succ]
                  refine take_run (i := 9) (v := ?vs9) rfl (by kernel_rfl) (by kernel_rfl) (by kernel_rfl) (fun _ _ _ h => h) (by rfl) ?ys9 (by assumption) ?rs9
                  case ys9 => (intro w hSw; (try dsimp only at hSw); go_simp; try with_reducible rfl)
                  try simp only [Act.put, List.setIfInBounds_toArray, List.set_cons_zero, List.set_cons_succ]
                  refine take_call (i := 10) rfl (by kernel_rfl) (by rfl) (fun Kq hK => ?_)
                  go_simp
                  refine hK.out _ _ ?hs10 (fun hHeld => ?rs10)
                  case hs10 => ((try dsimp only); go_keep)
                  clear hK Kq
                  try simp only [Act.put, List.setIfInBounds_toArray, List.set_cons_zero, List.set_cons_succ]
                  refine take_run (i := 11) (v := ?vs11) rfl (by kernel_rfl) (by kernel_rfl) (by kernel_rfl) (fun _ _ _ h => h) (by rfl) ?ys11 (by assumption) ?rs11
                  case ys11 => (intro w hSw; (try dsimp only at hSw); go_simp; try with_reducible rfl)
                  try simp only [Act.put, List.setIfInBounds_toArray, List.set_cons_zero, List.set_cons_succ]
                  refine wpAnyH_done (by kernel_rfl) ?_ _
                  refine NoPanic.normal ?_
                  go_wp2
                  go_roundw
                  case rel =>
                    have h := HJ'.out wz (Below.refl _ _)
                    exact ⟨j + 1, W', K', true, hlt, by go_num, rfl, by first | exact (h.alloc _).drew.drew | exact h.drew.drew | exact h | exact h.drew | exact h.drewN _ | exact (h.drewN _).drew⟩
                  case measure => simp [intOf]; omega
                · have hc0 : cmpI (u.length : Int) (y.length : Int) = 0 := cmpI_self (HLy.out rfl rfl)
                  by_cases hcm : cmpL u y < 0
                  · obtain ⟨W', K', hJ'⟩ := HYs.out Au cu rfl (fun _ => hcm) hu8 hu9 HE9.out
                    have HJ' := Lib.hid hJ'
                    have d3 : decide (cmpL u y < 0) = true := decide_eq_true hcm
                    clear hJ' hcm
                    go_wp2_with fail
                    refine wp_region_noPanic ?_
                    refine wp_region_held_drew (S := (fun w' => w'.cell? ⟨w.heap.size + 1 + 1, ql.toNat, none⟩ = some (.bool true) ∧ w'.cell? ⟨w.heap.size + 1, ql.toNat, none⟩ = some (.slice Ay y.length cy) ∧ w'.cell? ⟨wi.heap.size, 0, none⟩ = some (.int .i64 ql))) (by kernel_rfl) ?ht (fun hHeld => ?bt)
                    case ht => ((try dsimp only); go_keep)
                    refine take_run (i := 0) (v := ?vt0) rfl (by kernel_rfl) (by kernel_rfl) (by kernel_rfl) (fun _ _ _ h => h) (by rfl) ?yt0 (by assumption) ?rt0
                    case yt0 => (intro w hSw; (try dsimp only at hSw); go_simp; try with_reducible rfl)
                    try simp only [Act.put, List.setIfInBounds_toArray, List.set_cons_zero, List.set_cons_succ]
                    refine take_run (i := 1) (v := ?vt1) rfl (by kernel_rfl) (by kernel_rfl) (by kernel_rfl) (fun _ _ _ h => h) (by rfl) ?yt1 (by assumption) ?rt1
                    case yt1 => (intro w hSw; (try dsimp only at hSw); go_simp; try with_reducible rfl)
                    try simp only [Act.put, List.setIfInBounds_toArray, List.set_cons_zero, List.set_cons_succ]
                    refine take_run (i := 2) (v := ?vt2) rfl (by kernel_rfl) (by kernel_rfl) (by kernel_rfl) (fun _ _ _ h => h) (by rfl) ?yt2 (by assumption) ?rt2
                    case yt2 => (intro w hSw; (try dsimp only at hSw); go_simp; try with_reducible rfl)
                    try simp only [Act.put, List.setIfInBounds_toArray, List.set_cons_zero, List.set_cons_succ]
                    refine take_run (i := 3) (v := ?vt3) rfl (by kernel_rfl) (by kernel_rfl) (by kernel_rfl) (fun _ _ _ h => h) (by rfl) ?yt3 (by assumption) ?rt3
                    case yt3 => (intro w hSw; (try dsimp only at hSw); go_simp; try with_reducible rfl)
                    try simp only [Act.put, List.setIfInBounds_toArray, List.set_cons_zero, List.set_cons_succ]
                    refine take_run (i := 4) (v := ?vt4) rfl (by kernel_rfl) (by kernel_rfl) (by kernel_rfl) (fun _ _ _ h => h) (by rfl) ?yt4 (by assumption) ?rt4
                    case yt4 => (intro w hSw; (try dsimp only at hSw); go_simp; try with_reducible rfl)
                    try simp only [Act.put, List.setIfInBounds_toArray, List.set_cons_zero, List.set_cons_succ]
                    refine take_run (i := 5) (v := ?vt5) rfl (by kernel_rfl) (by kernel_rfl) (by kernel_rfl) (fun _ _ _ h => h) (by rfl) ?yt5 (by assumption) ?rt5
                    case yt5 => (intro w hSw; (try dsimp only at hSw); go_simp; try with_reducible rfl)
                    try simp only [Act.put, List.setIfInBounds_toArray, List.set_cons_zero, List.set_cons_succ]
                    refine take_run (i := 6) (v := .bool true) rfl (by kernel_rfl) (by kernel_rfl) (by kernel_rfl) (fun _ _ _ h => h) (by rfl) ?yt6 (by assumption) ?rt6
                    case yt6 => (intro w hSw; (try dsimp only at hSw); try go_simp; first | done | omega | (simp []; done) | trace_state)
                    try simp only [Act.put, List.setIfInBounds_toArray, List.set_cons_zero, List.set_cons_succ]
                    refine take_run (i := 7) (v := .bool false) rfl (by kernel_rfl) (by kernel_rfl) (by kernel_rfl) (fun _ _ _ h => h) (by rfl) ?yt7 (by assumption) ?rt7
                    case yt7 => (intro w hSw; (try dsimp only at hSw); try go_simp; first | done | omega | (simp []; done) | trace_state)
                    try simp only [Act.put, List.setIfInBounds_toArray, List.set_cons_zero, List.set_cons_succ]
                    refine take_run (i := 8) (v := ?vt8) rfl (by kernel_rfl) (by kernel_rfl) (by kernel_rfl) (fun _ _ _ h => h) (by rfl) ?yt8 (by assumption) ?rt8
                    case yt8 => (intro w hSw; (try dsimp only at hSw); go_simp; try with_reducible rfl)
                    try simp only [Act.put, List.setIfInBounds_toArray, List.set_cons_zero, List.set_cons_succ]
                    refine take_run (i := 9) (v := ?vt9) rfl (by kernel_rfl) (by kernel_rfl) (by kernel_rfl) (fun _ _ _ h => h) (by rfl) ?yt9 (by assumption) ?rt9
                    case yt9 => (intro w hSw; (try dsimp only at hSw); go_simp; try with_reducible rfl)
                    try simp only [Act.put, List.setIfInBounds_toArray, List.set_cons_zero, List.set_cons_succ]
                    refine take_run (i := 10) (v := ?vt10) rfl (by kernel_rfl) (by kernel_rfl) (by kernel_rfl) (fun _ _ _ h => h) (by rfl) ?yt10 (by assumption) ?rt10
                    case yt10 => (intro w hSw; (try dsimp only at hSw); go_simp; try with_reducible rfl)
                    try simp only [Act.put, List.setIfInBounds_toArray, List.set_cons_zero, List.set_cons_succ]
                    refine take_run (i := 11) (v := ?vt11) rfl (by kernel_rfl) (by kernel_rfl) (by kernel_rfl) (fun _ _ _ h => h) (by rfl) ?yt11 (by assumption) ?rt11
                    case yt11 => (intro w hSw; (try dsimp only at hSw); go_simp; try with_reducible rfl)
                    try simp only [Act.put, List.setIfInBounds_toArray, List.set_cons_zero, List.set_cons_succ]
                    refine take_run (i := 12) (v := ?vt12) rfl (by kernel_rfl) (by kernel_rfl) (by kernel_rfl) (fun _ _ _ h => h) (by rfl) ?yt12 (by assumption) ?rt12
                    case yt12 => (intro w hSw; (try dsimp only at hSw); go_simp; try with_reducible rfl)
                    try simp only [Act.put, List.setIfInBounds_toArray, List.set_cons_zero, List.set_cons_succ]
                    refine take_run (i := 13) (v := ?vt13) rfl (by kernel_rfl) (by kernel_rfl) (by kernel_rfl) (fun _ _ _ h => h) (by rfl) ?yt13 (by assumption) ?rt13
                    case yt13 => (intro w hSw; (try dsimp only at hSw); go_simp; try with_reducible rfl)
                    try simp only [Act.put, List.setIfInBounds_toArray, List.set_cons_zero, List.set_cons_succ]
                    refine take_run (i := 14) (v := ?vt14) rfl (by kernel_rfl) (by kernel_rfl) (by kernel_rfl) (fun _ _ _ h => h) (by rfl) ?yt14 (by assumption) ?rt14
                    case yt14 => (intro w hSw; (try dsimp only at hSw); go_simp; try with_reducible rfl)
                    try simp only [Act.put, List.setIfInBounds_toArray, List.set_cons_zero, List.set_cons_succ]
                    refine take_run (i := 15) (v := ?vt15) rfl (by kernel_rfl) (by kernel_rfl) (by kernel_rfl) (fun _ _ _ h => h) (by rfl) ?yt15 (by assumption) ?rt15
                    case yt15 => (intro w hSw; (try dsimp only at hSw); go_simp; try with_reducible rfl)
                    try simp only [Act.put, List.setIfInBounds_toArray, List.set_cons_zero, List.set_cons_succ]
                    refine take_run (i := 16) (v := ?vt16) rfl (by kernel_rfl) (by kernel_rfl) (by kernel_rfl) (fun _ _ _ h => h) (by rfl) ?yt16 (by assumption) ?rt16
                    case yt16 => (intro w hSw; (try dsimp only at hSw); go_simp; try with_reducible rfl)
                    try simp only [Act.put, List.setIfInBounds_toArray, List.set_cons_zero, List.set_cons_succ]
                    refine take_run (i := 18) (v := ?vt18) rfl (by kernel_rfl) (by kernel_rfl) (by kernel_rfl) (fun _ _ _ h => h) (by rfl) ?yt18 (by assumption) ?rt18
                    case yt18 => (intro w hSw; (try dsimp only at hSw); go_simp; try with_reducible rfl)
                    try simp only [Act.put, List.setIfInBounds_toArray, List.set_cons_zero, List.set_cons_succ]
                    refine take_run (i := 19) (v := ?vt19) rfl (by kernel_rfl) (by kernel_rfl) (by kernel_rfl) (fun _ _ _ h => h) (by rfl) ?yt19 (by assumption) ?rt19
                    case yt19 => (intro w hSw; (try dsimp only at hSw); go_simp; try with_reducible rfl)
                    try simp only [Act.put, List.setIfInBounds_toArray, List.set_cons_zero, List.set_cons_succ]
                    refine take_run (i := 20) (v := ?vt20) rfl (by kernel_rfl) (by kernel_rfl) (by kernel_rfl) (fun _ _ _ h => h) (by rfl) ?yt20 (by assumption) ?rt20
                    case yt20 => (intro w hSw; (try dsimp only at hSw); go_simp; try with_reducible rfl)
                    try simp only [Act.put, List.setIfInBounds_toArray, List.set_cons_zero, List.set_cons_succ]
                    refine take_run (i := 21) (v := ?vt21) rfl (by kernel_rfl) (by kernel_rfl) (by kernel_rfl) (fun _ _ _ h => h) (by rfl) ?yt21 (by assumption) ?rt21
                    case yt21 => (intro w hSw; (try dsimp only at hSw); go_simp; try with_reducible rfl)
                    try simp only [Act.put, List.setIfInBounds_toArray, List.set_cons_zero, List.set_cons_succ]
                    refine take_run (i := 22) (v := ?vt22) rfl (by kernel_rfl) (by kernel_rfl) (by kernel_rfl) (fun _ _ _ h => h) (by rfl) ?yt22 (by assumption) ?rt22
                    case yt22 => (intro w hSw; (try dsimp only at hSw); go_simp; try with_reducible rfl)
                    try simp only [Act.put, List.setIfInBounds_toArray, List.set_cons_zero, List.set_cons_succ]
                    refine take_run (i := 23) (v := ?vt23) rfl (by kernel_rfl) (by kernel_rfl) (by kernel_rfl) (fun _ _ _ h => h) (by rfl) ?yt23 (by assumption) ?rt23
                    case yt23 => (intro w hSw; (try dsimp only at hSw); go_simp; try with_reducible rfl)
                    try simp only [Act.put, List.setIfInBounds_toArray, List.set_cons_zero, List.set_cons_succ]
                    refine take_call (i := 17) rfl (by kernel_rfl) (by rfl) (fun Kq hK => ?_)
                    go_simp
                    go_at_call 35
                    refine (cmpInt_any (u.length : Int) (y.length : Int) _).mono ?_
                    rintro e w9 ⟨rfl, rfl⟩
                    rw [hc0]
                    refine hK.out _ _ ?ht17 (fun hHeld => ?rt17)
                    case ht17 => ((try dsimp only); go_keep)
                    clear hK Kq
                    try simp only [Act.put, List.setIfInBounds_toArray, List.set_cons_zero, List.set_cons_succ]
                    refine take_call (i := 24) rfl (by kernel_rfl) (by rfl) (fun Kq hK => ?_)
                    go_simp
                    go_at_call 16
                    refine (compareInts_any u y Au Ay cu cy _ _ _ (by omega) (by omega) HE9d.out HyEd.out).mono ?_
                    rintro e w9 ⟨rfl, rfl⟩
                    refine hK.out _ _ ?ht24 (fun hHeld => ?rt24)
                    case ht24 => ((try dsimp only); go_keep)
                    clear hK Kq
                    try simp only [Act.put, List.setIfInBounds_toArray, List.set_cons_zero, List.set_cons_succ]
                    refine take_call (i := 25) rfl (by kernel_rfl) (by rfl) (fun Kq hK => ?_)
                    go_simp
                    refine hK.out _ _ ?ht25 (fun hHeld => ?rt25)
                    case ht25 => ((try dsimp only); go_keep)
                    clear hK Kq
                    try simp only [Act.put, List.setIfInBounds_toArray, List.set_cons_zero, List.set_cons_succ]
                    refine take_call (i := 26) rfl (by kernel_rfl) (by rfl) (fun Kq hK => ?_)
                    go_simp
                    go_at_call 46
                    refine (or2_any wz.heap.size 2 0 (cmpL u y) _ (by unfold I64; omega) (cmpL_range u y) (by omega) (by omega) (by have h := (Blk'.new wz.drew 3 #[.int .i64 0, .int .i64 (cmpL u y)]).cell 0; exact h) (by have h := (Blk'.new wz.drew 3 #[.int .i64 0, .int .i64 (cmpL u y)]).cell 1; exact h)).mono ?_
                    rintro e w9 ⟨rfl, rfl⟩
                    rw [orI_zero]
                    refine hK.out _ _ ?ht26 (fun hHeld => ?rt26)
                    case ht26 => ((try dsimp only); go_keep)
                    clear hK Kq
                    try simp only [Act.put, List.setIfInBounds_toArray, List.set_cons_zero, List.set_cons_succ]
                    refine take_run (i := 27) (v := .bool true) rfl (by kernel_rfl) (by kernel_rfl) (by kernel_rfl) (fun _ _ _ h => h) (by rfl) ?yt27 (by assumption) ?rt27
                    case yt27 => (intro w hSw; (try dsimp only at hSw); try go_simp; first | done | omega | (simp [d3]; done) | trace_state)
                    try simp only [Act.put, List.setIfInBounds_toArray, List.set_cons_zero, List.set_cons_succ]
                    refine take_run (i := 28) (v := ?vt28) rfl (by kernel_rfl) (by kernel_rfl) (by kernel_rfl) (fun _ _ _ h => h) (by rfl) ?yt28 (by assumption) ?rt28
                    case yt28 => (intro w hSw; (try dsimp only at hSw); go_simp; try with_reducible rfl)
                    try simp only [Act.put, List.setIfInBounds_toArray, List.set_cons_zero, List.set_cons_succ]
                    refine take_run (i := 29) (v := ?vt29) rfl (by kernel_rfl) (by kernel_rfl) (by kernel_rfl) (fun _ _ _ h => h) (by rfl) ?yt29 (by assumption) ?rt29
                    case yt29 => (intro w hSw; (try dsimp only at hSw); go_simp; try with_reducible rfl)
                    try simp only [Act.put, List.setIfInBounds_toArray, List.set_cons_zero, List.set_cons_succ]
                    refine wpAnyH_done (by kernel_rfl) ?_ _
                    refine NoPanic.normal ?_
                    have zs1 : (wz.setCell ⟨w.heap.size + 1, ql.toNat, none⟩ (.slice Au u.length cu)).cell? ⟨wi.heap.size, 0, none⟩ = some (.int .i64 ql) := (((Kept.refl (fun b => b = w.heap.size + 1) wz).setCell (p := ⟨w.heap.size + 1, ql.toNat, none⟩) (.inl rfl) _).cell (p := ⟨wi.heap.size, 0, none⟩) (by simp; omega) (by show ¬ wi.heap.size = w.heap.size + 1; omega)).trans q0
                    have zs2 : ((wz.setCell ⟨w.heap.size + 1, ql.toNat, none⟩ (.slice Au u.length cu)).setCell ⟨w.heap.size + 1 + 1, ql.toNat, none⟩ (.bool true)).cell? ⟨wi.heap.size, 0, none⟩ = some (.int .i64 ql) := (((Kept.refl (fun b => b = w.heap.size + 1 + 1) (wz.setCell ⟨w.heap.size + 1, ql.toNat, none⟩ (.slice Au u.length cu))).setCell (p := ⟨w.heap.size + 1 + 1, ql.toNat, none⟩) (.inl rfl) _).cell (p := ⟨wi.heap.size, 0, none⟩) (by simp [World.setCell]; omega) (by show ¬ wi.heap.size = w.heap.size + 1 + 1; omega)).trans zs1
                    have zs3 : ((wz.setCell ⟨w.heap.size + 1, ql.toNat, none⟩ (.slice Au u.length cu)).alloc (.cells #[.int .i64 0, .int .i64 (cmpL u y)] 3)).cell? ⟨wi.heap.size, 0, none⟩ = some (.int .i64 ql) := (((Below.refl _ _).alloc (Nat.le_refl _) _ : Below _ (wz.setCell ⟨w.heap.size + 1, ql.toNat, none⟩ (.slice Au u.length cu)) _).cell (by show wi.heap.size < _; simp [World.setCell]; omega)).trans zs1
                    have zs4 : (((wz.setCell ⟨w.heap.size + 1, ql.toNat, none⟩ (.slice Au u.length cu)).setCell ⟨w.heap.size + 1 + 1, ql.toNat, none⟩ (.bool true)).alloc (.cells #[.int .i64 0, .int .i64 (cmpL u y)] 3)).cell? ⟨wi.heap.size, 0, none⟩ = some (.int .i64 ql) := (((Below.refl _ _).alloc (Nat.le_refl _) _ : Below _ ((wz.setCell ⟨w.heap.size + 1, ql.toNat, none⟩ (.slice Au u.length cu)).setCell ⟨w.heap.size + 1 + 1, ql.toNat, none⟩ (.bool true)) _).cell (by show wi.heap.size < _; simp [World.setCell]; omega)).trans zs2
                    go_wp2_with fail
                    refine wp_region_noPanic ?_
                    refine wp_region_held_drew (S := (fun w' => w'.cell? ⟨wi.heap.size, 0, none⟩ = some (.int .i64 ql))) (by kernel_rfl) ?hsa (fun hHeld => ?bsa)
                    case hsa => ((try dsimp only); go_keep)
                    refine take_run (i := 0) (v := ?vsa0) rfl (by kernel_rfl) (by kernel_rfl) (by kernel_rfl) (fun _ _ _ h => h) (by rfl) ?ysa0 (by assumption) ?rsa0
                    case ysa0 => (intro w hSw; (try dsimp only at hSw); go_simp; try with_reducible rfl)
                    try simp only [Act.put, List.setIfInBounds_toArray, List.set_cons_zero, List.set_cons_succ]
                    refine take_run (i := 1) (v := ?vsa1) rfl (by kernel_rfl) (by kernel_rfl) (by kernel_rfl) (fun _ _ _ h => h) (by rfl) ?ysa1 (by assumption) ?rsa1
                    case ysa1 => (intro w hSw; (try dsimp only at hSw); go_simp; try with_reducible rfl)
                    try simp only [Act.put, List.setIfInBounds_toArray, List.set_cons_zero, List.set_cons_succ]
                    refine take_run (i := 2) (v := ?vsa2) rfl (by kernel_rfl) (by kernel_rfl) (by kernel_rfl) (fun _ _ _ h => h) (by rfl) ?ysa2 (by assumption) ?rsa2
                    case ysa2 => (intro w hSw; (try dsimp only at hSw); go_simp; try with_reducible rfl)
                    try simp only [Act.put, List.setIfInBounds_toArray, List.set_cons_zero, List.set_cons_succ]
                    refine take_run (i := 3) (v := ?vsa3) rfl (by kernel_rfl) (by kernel_rfl) (by kernel_rfl) (fun _ _ _ h => h) (by rfl) ?ysa3 (by assumption) ?rsa3
                    case ysa3 => (intro w hSw; (try dsimp only at hSw); go_simp; try with_reducible rfl)
                    try simp only [Act.put, List.setIfInBounds_toArray, List.set_cons_zero, List.set_cons_succ]
                    refine take_run (i := 4) (v := ?vsa4) rfl (by kernel_rfl) (by kernel_rfl) (by kernel_rfl) (fun _ _ _ h => h) (by rfl) ?ysa4 (by assumption) ?rsa4
                    case ysa4 => (intro w hSw; (try dsimp only at hSw); go_simp; try with_reducible rfl)
                    try simp only [Act.put, List.setIfInBounds_toArray, List.set_cons_zero, List.set_cons_succ]
                    refine take_run (i := 5) (v := ?vsa5) rfl (by kernel_rfl) (by kernel_rfl) (by kernel_rfl) (fun _ _ _ h => h) (by rfl) ?ysa5 (by assumption) ?rsa5
                    case ysa5 => (intro w hSw; (try dsimp only at hSw); go_simp; try with_reducible rfl)
                    try simp only [Act.put, List.setIfInBounds_toArray, List.set_cons_zero, List.set_cons_succ]
                    refine take_run (i := 6) (v := ?vsa6) rfl (by kernel_rfl) (by kernel_rfl) (by kernel_rfl) (fun _ _ _ h => h) (by rfl) ?ysa6 (by assumption) ?rsa6
                    case ysa6 => (intro w hSw; (try dsimp only at hSw); go_simp; try with_reducible rfl)
                    try simp only [Act.put, List.setIfInBounds_toArray, List.set_cons_zero, List.set_cons_succ]
                    refine take_run (i := 7) (v := ?vsa7) rfl (by kernel_rfl) (by kernel_rfl) (by kernel_rfl) (fun _ _ _ h => h) (by rfl) ?ysa7 (by assumption) ?rsa7
                    case ysa7 => (intro w hSw; (try dsimp only at hSw); go_simp; try with_reducible rfl)
                    try simp only [Act.put, List.setIfInBounds_toArray, List.set_cons_zero, List.set_cons_succ]
                    refine take_call (i := 8) rfl (by kernel_rfl) (by rfl) (fun Kq hK => ?_)
                    go_simp
                    refine hK.out _ _ ?hsa8 (fun hHeld => ?rsa8)
                    case hsa8 => ((try dsimp only); go_keep)
                    clear hK Kq
                    try simp only [Act.put, List.setIfInBounds_toArray, List.set_cons_zero, List.set_cons_succ]
                    refine take_run (i := 9) (v := ?vsa9) rfl (by kernel_rfl) (by kernel_rfl) (by kernel_rfl) (fun _ _ _ h => h) (by rfl) ?ysa9 (by assumption) ?rsa9
                    case ysa9 => (intro w hSw; (try dsimp only at hSw); go_simp; try with_reducible rfl)
                    try simp only [Act.put, List.setIfInBounds_toArray, List.set_cons_zero, List.set_cons_succ]
                    refine take_call (i := 10) rfl (by kernel_rfl) (by rfl) (fun Kq hK => ?_)
                    go_simp
                    refine hK.out _ _ ?hsa10 (fun hHeld => ?rsa10)
                    case hsa10 => ((try dsimp only); go_keep)
                    clear hK Kq
                    try simp only [Act.put, List.setIfInBounds_toArray, List.set_cons_zero, List.set_cons_succ]
                    refine take_run (i := 11) (v := ?vsa11) rfl (by kernel_rfl) (by kernel_rfl) (by kernel_rfl) (fun _ _ _ h => h) (by rfl) ?ysa11 (by assumption) ?rsa11
                    case ysa11 => (intro w hSw; (try dsimp only at hSw); go_simp; try with_reducible rfl)
                    try simp only [Act.put, List.setIfInBounds_toArray, List.set_cons_zero, List.set_cons_succ]
                    refine wpAnyH_done (by kernel_rfl) ?_ _
                    refine NoPanic.normal ?_
                    go_wp2
                    go_roundw
                    case rel =>
                      have h := HJ'.out wz (Below.refl _ _)
                      exact ⟨j + 1, W', K', true, hlt, by go_num, rfl, by first | exact (h.alloc _).drew.drew | exact h.drew.drew | exact h | exact h.drew | exact h.drewN _ | exact (h.drewN _).drew⟩
                    case measure => simp [intOf]; omega
                  · have HN := Lib.hid (HSt1.out (fun _ => ⟨rfl, by false_or_by_contra; rename_i h; exact hcm ((cmpL_lt _ _).2 h)⟩))
                    have d3 : decide (cmpL u y < 0) = false := decide_eq_false hcm
                    clear hcm
                    go_wp2_with fail
                    refine wp_region_noPanic ?_
                    refine wp_region_held_drew (S := (fun w' => w'.cell? ⟨w.heap.size + 1 + 1, ql.toNat, none⟩ = some (.bool true) ∧ w'.cell? ⟨w.heap.size + 1, ql.toNat, none⟩ = some (.slice Ay y.length cy) ∧ w'.cell? ⟨wi.heap.size, 0, none⟩ = some (.int .i64 ql))) (by kernel_rfl) ?hf (fun hHeld => ?bf)
                    case hf => ((try dsimp only); go_keep)
                    refine take_run (i := 0) (v := ?vf0) rfl (by kernel_rfl) (by kernel_rfl) (by kernel_rfl) (fun _ _ _ h => h) (by rfl) ?yf0 (by assumption) ?rf0
                    case yf0 => (intro w hSw; (try dsimp only at hSw); go_simp; try with_reducible rfl)
                    try simp only [Act.put, List.setIfInBounds_toArray, List.set_cons_zero, List.set_cons_succ]
                    refine take_run (i := 1) (v := ?vf1) rfl (by kernel_rfl) (by kernel_rfl) (by kernel_rfl) (fun _ _ _ h => h) (by rfl) ?yf1 (by assumption) ?rf1
                    case yf1 => (intro w hSw; (try dsimp only at hSw); go_simp; try with_reducible rfl)
                    try simp only [Act.put, List.setIfInBounds_toArray, List.set_cons_zero, List.set_cons_succ]
                    refine take_run (i := 2) (v := ?vf2) rfl (by kernel_rfl) (by kernel_rfl) (by kernel_rfl) (fun _ _ _ h => h) (by rfl) ?yf2 (by assumption) ?rf2
                    case yf2 => (intro w hSw; (try dsimp only at hSw); go_simp; try with_reducible rfl)
                    try simp only [Act.put, List.setIfInBounds_toArray, List.set_cons_zero, List.set_cons_succ]
                    refine take_run (i := 3) (v := ?vf3) rfl (by kernel_rfl) (by kernel_rfl) (by kernel_rfl) (fun _ _ _ h => h) (by rfl) ?yf3 (by assumption) ?rf3
                    case yf3 => (intro w hSw; (try dsimp only at hSw); go_simp; try with_reducible rfl)
                    try simp only [Act.put, List.setIfInBounds_toArray, List.set_cons_zero, List.set_cons_succ]
                    refine take_run (i := 4) (v := ?vf4) rfl (by kernel_rfl) (by kernel_rfl) (by kernel_rfl) (fun _ _ _ h => h) (by rfl) ?yf4 (by assumption) ?rf4
                    case yf4 => (intro w hSw; (try dsimp only at hSw); go_simp; try with_reducible rfl)
                    try simp only [Act.put, List.setIfInBounds_toArray, List.set_cons_zero, List.set_cons_succ]
                    refine take_run (i := 5) (v := ?vf5) rfl (by kernel_rfl) (by kernel_rfl) (by kernel_rfl) (fun _ _ _ h => h) (by rfl) ?yf5 (by assumption) ?rf5
                    case yf5 => (intro w hSw; (try dsimp only at hSw); go_simp; try with_reducible rfl)
                    try simp only [Act.put, List.setIfInBounds_toArray, List.set_cons_zero, List.set_cons_succ]
                    refine take_run (i := 6) (v := .bool true) rfl (by kernel_rfl) (by kernel_rfl) (by kernel_rfl) (fun _ _ _ h => h) (by rfl) ?yf6 (by assumption) ?rf6
                    case yf6 => (intro w hSw; (try dsimp only at hSw); try go_simp; first | done | omega | (simp []; done) | trace_state)
                    try simp only [Act.put, List.setIfInBounds_toArray, List.set_cons_zero, List.set_cons_succ]
                    refine take_run (i := 7) (v := .bool false) rfl (by kernel_rfl) (by kernel_rfl) (by kernel_rfl) (fun _ _ _ h => h) (by rfl) ?yf7 (by assumption) ?rf7
                    case yf7 => (intro w hSw; (try dsimp only at hSw); try go_simp; first | done | omega | (simp []; done) | trace_state)
                    try simp only [Act.put, List.setIfInBounds_toArray, List.set_cons_zero, List.set_cons_succ]
                    refine take_run (i := 8) (v := ?vf8) rfl (by kernel_rfl) (by kernel_rfl) (by kernel_rfl) (fun _ _ _ h => h) (by rfl) ?yf8 (by assumption) ?rf8
                    case yf8 => (intro w hSw; (try dsimp only at hSw); go_simp; try with_reducible rfl)
                    try simp only [Act.put, List.setIfInBounds_toArray, List.set_cons_zero, List.set_cons_succ]
                    refine take_run (i := 9) (v := ?vf9) rfl (by kernel_rfl) (by kernel_rfl) (by kernel_rfl) (fun _ _ _ h => h) (by rfl) ?yf9 (by assumption) ?rf9
                    case yf9 => (intro w hSw; (try dsimp only at hSw); go_simp; try with_reducible rfl)
                    try simp only [Act.put, List.setIfInBounds_toArray, List.set_cons_zero, List.set_cons_succ]
                    refine take_run (i := 10) (v := ?vf10) rfl (by kernel_rfl) (by kernel_rfl) (by kernel_rfl) (fun _ _ _ h => h) (by rfl) ?yf10 (by assumption) ?rf10
                    case yf10 => (intro w hSw; (try dsimp only at hSw); go_simp; try with_reducible rfl)
                    try simp only [Act.put, List.setIfInBounds_toArray, List.set_cons_zero, List.set_cons_succ]
                    refine take_run (i := 11) (v := ?vf11) rfl (by kernel_rfl) (by kernel_rfl) (by kernel_rfl) (fun _ _ _ h => h) (by rfl) ?yf11 (by assumption) ?rf11
                    case yf11 => (intro w hSw; (try dsimp only at hSw); go_simp; try with_reducible rfl)
                    try simp only [Act.put, List.setIfInBounds_toArray, List.set_cons_zero, List.set_cons_succ]
                    refine take_run (i := 12) (v := ?vf12) rfl (by kernel_rfl) (by kernel_rfl) (by kernel_rfl) (fun _ _ _ h => h) (by rfl) ?yf12 (by assumption) ?rf12
                    case yf12 => (intro w hSw; (try dsimp only at hSw); go_simp; try with_reducible rfl)
                    try simp only [Act.put, List.setIfInBounds_toArray, List.set_cons_zero, List.set_cons_succ]
                    refine take_run (i := 13) (v := ?vf13) rfl (by kernel_rfl) (by kernel_rfl) (by kernel_rfl) (fun _ _ _ h => h) (by rfl) ?yf13 (by assumption) ?rf13
                    case yf13 => (intro w hSw; (try dsimp only at hSw); go_simp; try with_reducible rfl)
                    try simp only [Act.put, List.setIfInBounds_toArray, List.set_cons_zero, List.set_cons_succ]
                    refine take_run (i := 14) (v := ?vf14) rfl (by kernel_rfl) (by kernel_rfl) (by kernel_rfl) (fun _ _ _ h => h) (by rfl) ?yf14 (by assumption) ?rf14
                    case yf14 => (intro w hSw; (try dsimp only at hSw); go_simp; try with_reducible rfl)
                    try simp only [Act.put, List.setIfInBounds_toArray, List.set_cons_zero, List.set_cons_succ]
                    refine take_run (i := 15) (v := ?vf15) rfl (by kernel_rfl) (by kernel_rfl) (by kernel_rfl) (fun _ _ _ h => h) (by rfl) ?yf15 (by assumption) ?rf15
                    case yf15 => (intro w hSw; (try dsimp only at hSw); go_simp; try with_reducible rfl)
                    try simp only [Act.put, List.setIfInBounds_toArray, List.set_cons_zero, List.set_cons_succ]
                    refine take_run (i := 16) (v := ?vf16) rfl (by kernel_rfl) (by kernel_rfl) (by kernel_rfl) (fun _ _ _ h => h) (by rfl) ?yf16 (by assumption) ?rf16
                    case yf16 => (intro w hSw; (try dsimp only at hSw); go_simp; try with_reducible rfl)
                    try simp only [Act.put, List.setIfInBounds_toArray, List.set_cons_zero, List.set_cons_succ]
                    refine take_run (i := 18) (v := ?vf18) rfl (by kernel_rfl) (by kernel_rfl) (by kernel_rfl) (fun _ _ _ h => h) (by rfl) ?yf18 (by assumption) ?rf18
                    case yf18 => (intro w hSw; (try dsimp only at hSw); go_simp; try with_reducible rfl)
                    try simp only [Act.put, List.setIfInBounds_toArray, List.set_cons_zero, List.set_cons_succ]
                    refine take_run (i := 19) (v := ?vf19) rfl (by kernel_rfl) (by kernel_rfl) (by kernel_rfl) (fun _ _ _ h => h) (by rfl) ?yf19 (by assumption) ?rf19
                    case yf19 => (intro w hSw; (try dsimp only at hSw); go_simp; try with_reducible rfl)
                    try simp only [Act.put, List.setIfInBounds_toArray, List.set_cons_zero, List.set_cons_succ]
                    refine take_run (i := 20) (v := ?vf20) rfl (by kernel_rfl) (by kernel_rfl) (by kernel_rfl) (fun _ _ _ h => h) (by rfl) ?yf20 (by assumption) ?rf20
                    case yf20 => (intro w hSw; (try dsimp only at hSw); go_simp; try with_reducible rfl)
                    try simp only [Act.put, List.setIfInBounds_toArray, List.set_cons_zero, List.set_cons_succ]
                    refine take_run (i := 21) (v := ?vf21) rfl (by kernel_rfl) (by kernel_rfl) (by kernel_rfl) (fun _ _ _ h => h) (by rfl) ?yf21 (by assumption) ?rf21
                    case yf21 => (intro w hSw; (try dsimp only at hSw); go_simp; try with_reducible rfl)
                    try simp only [Act.put, List.setIfInBounds_toArray, List.set_cons_zero, List.set_cons_succ]
                    refine take_run (i := 22) (v := ?vf22) rfl (by kernel_rfl) (by kernel_rfl) (by kernel_rfl) (fun _ _ _ h => h) (by rfl) ?yf22 (by assumption) ?rf22
                    case yf22 => (intro w hSw; (try dsimp only at hSw); go_simp; try with_reducible rfl)
                    try simp only [Act.put, List.setIfInBounds_toArray, List.set_cons_zero, List.set_cons_succ]
                    refine take_run (i := 23) (v := ?vf23) rfl (by kernel_rfl) (by kernel_rfl) (by kernel_rfl) (fun _ _ _ h => h) (by rfl) ?yf23 (by assumption) ?rf23
                    case yf23 => (intro w hSw; (try dsimp only at hSw); go_simp; try with_reducible rfl)
                    try simp only [Act.put, List.setIfInBounds_toArray, List.set_cons_zero, List.set_cons_succ]
                    refine take_call (i := 17) rfl (by kernel_rfl) (by rfl) (fun Kq hK => ?_)
                    go_simp
                    go_at_call 35
                    refine (cmpInt_any (u.length : Int) (y.length : Int) _).mono ?_
                    rintro e w9 ⟨rfl, rfl⟩
                    rw [hc0]
                    refine hK.out _ _ ?hf17 (fun hHeld => ?rf17)
                    case hf17 => ((try dsimp only); go_keep)
                    clear hK Kq
                    try simp only [Act.put, List.setIfInBounds_toArray, List.set_cons_zero, List.set_cons_succ]
                    refine take_call (i := 24) rfl (by kernel_rfl) (by rfl) (fun Kq hK => ?_)
                    go_simp
                    go_at_call 16
                    refine (compareInts_any u y Au Ay cu cy _ _ _ (by omega) (by omega) HE9d.out HyEd.out).mono ?_
                    rintro e w9 ⟨rfl, rfl⟩
                    refine hK.out _ _ ?hf24 (fun hHeld => ?rf24)
                    case hf24 => ((try dsimp only); go_keep)
                    clear hK Kq
                    try simp only [Act.put, List.setIfInBounds_toArray, List.set_cons_zero, List.set_cons_succ]
                    refine take_call (i := 25) rfl (by kernel_rfl) (by rfl) (fun Kq hK => ?_)
                    go_simp
                    refine hK.out _ _ ?hf25 (fun hHeld => ?rf25)
                    case hf25 => ((try dsimp only); go_keep)
                    clear hK Kq
                    try simp only [Act.put, List.setIfInBounds_toArray, List.set_cons_zero, List.set_cons_succ]
                    refine take_call (i := 26) rfl (by kernel_rfl) (by rfl) (fun Kq hK => ?_)
                    go_simp
                    go_at_call 46
                    refine (or2_any wz.heap.size 2 0 (cmpL u y) _ (by unfold I64; omega) (cmpL_range u y) (by omega) (by omega) (by have h := (Blk'.new wz.drew 3 #[.int .i64 0, .int .i64 (cmpL u y)]).cell 0; exact h) (by have h := (Blk'.new wz.drew 3 #[.int .i64 0, .int .i64 (cmpL u y)]).cell 1; exact h)).mono ?_
                    rintro e w9 ⟨rfl, rfl⟩
                    rw [orI_zero]
                    refine hK.out _ _ ?hf26 (fun hHeld => ?rf26)
                    case hf26 => ((try dsimp only); go_keep)
                    clear hK Kq
                    try simp only [Act.put, List.setIfInBounds_toArray, List.set_cons_zero, List.set_cons_succ]
                    refine take_run (i := 27) (v := .bool false) rfl (by kernel_rfl) (by kernel_rfl) (by kernel_rfl) (fun _ _ _ h => h) (by rfl) ?yf27 (by assumption) ?rf27
                    case yf27 => (intro w hSw; (try dsimp only at hSw); try go_simp; first | done | omega | (simp [d3]; done) | trace_state)
                    try simp only [Act.put, List.setIfInBounds_toArray, List.set_cons_zero, List.set_cons_succ]
                    refine take_run (i := 28) (v := ?vf28) rfl (by kernel_rfl) (by kernel_rfl) (by kernel_rfl) (fun _ _ _ h => h) (by rfl) ?yf28 (by assumption) ?rf28
                    case yf28 => (intro w hSw; (try dsimp only at hSw); go_simp; try with_reducible rfl)
                    try simp only [Act.put, List.setIfInBounds_toArray, List.set_cons_zero, List.set_cons_succ]
                    refine take_run (i := 29) (v := ?vf29) rfl (by kernel_rfl) (by kernel_rfl) (by kernel_rfl) (fun _ _ _ h => h) (by rfl) ?yf29 (by assumption) ?rf29
                    case yf29 => (intro w hSw; (try dsimp only at hSw); go_simp; try with_reducible rfl)
                    try simp only [Act.put, List.setIfInBounds_toArray, List.set_cons_zero, List.set_cons_succ]
                    refine wpAnyH_done (by kernel_rfl) ?_ _
                    refine NoPanic.normal ?_
                    go_wp2
                    go_roundw
                    case rel => exact ⟨j + 1, W, K, a, hlt, by go_num, rfl, HJ.out.no HQ.out.1 HN.out (bthen HBiz.out (by first | exact below_drewN ((Below.refl _ _).alloc (Nat.le_refl _) _) _ | exact below_drewN (((Below.refl _ _).drew).alloc (Nat.le_refl _) _) _ | exact below_drewN (Below.refl _ _) _ | exact Below.refl _ _ | exact (Below.refl _ _).drew | exact (Below.refl _ _).drew.drew | exact (Below.refl _ _).alloc (Nat.le_refl _) _ | exact (Below.refl _ _).drew.alloc (Nat.le_refl _) _ | exact ((Below.refl _ _).drew.alloc (Nat.le_refl _) _).drew) HBiz.out.size)⟩
                    case measure => simp [intOf]; omega
        · have E : j = rs.length := by omega
          subst E
          have HEn := Lib.hid (HJ.out.end_ HGk.out)
          go_wp2
          go_roundg (msr (p8 2000) W K + (if a then 1 else 0))
          case measure => exact HEn.out.1
          case rel => exact ⟨W, K, a, rfl, HJ.out.1, HEn.out.2, Nat.le_refl _⟩
end Go.Proofs.YtlgchgpplfhneaaDoor
