/- Contract: parlref2.LeastOf holds a least word. -/
import Derived.Test.YtpkfalhpkkponaaDoorLwS
import Derived.Deep.Cut
namespace Go.Proofs.YtpkfalhpkkponaaDoor
open Go.RowKit
set_option linter.unusedVariables false

def RlwR (w : World) (g : Gram) (n OB LB : Nat) (L : List Int) (z gc : Array Value) (W0 : List (List Int)) (K0 : List Bool) (ag i : Value) (wr : World) : Prop :=
  ∃ (j : Nat) (W : List (List Int)) (K : List Bool) (a : Bool), j ≤ g.rules.length ∧ i = .int .i64 j ∧ ag = .bool a ∧ LwJ w g n OB LB L z gc g.rules W0 K0 a j W K wr
def RlwS (OB : Nat) (W : List (List Int)) (K : List Bool) (wi wq : World) (right : List Sym) (v ok i : Value) (wr : World) : Prop :=
  ∃ m : Nat, m ≤ right.length ∧ i = .int .i64 m ∧ ok = .bool (knowsB K (right.take m)) ∧ Own wr (fun b => OB + 2 ≤ b ∧ b < wi.heap.size) wq.heap.size 3 v (catW W (right.take m)) ∧ Below wq.heap.size wq wr

set_option maxRecDepth 100000 in
set_option maxHeartbeats 20000000 in
theorem rleast_any (g : Gram) (n : Nat) (A : Option Addr) (c : Nat) (S : Nat → Prop) (w : World) (L : List Int) (m : Nat) (hm : m < n) (hgn : g.nons = (n : Int)) (hn : 1 ≤ n ∧ n ≤ 10) (hlc : g.rules.length ≤ c) (hc : c ≤ 9223372036854775807) (hA : Els w S g.rules A) (hS : ∀ b, S b → b < w.heap.size)
    (hrl : g.rules.length ≤ 1000) (hrr : RulesIn g n) (h8 : ∀ q ∈ g.rules, ∀ s ∈ q.right, s.term = true → 0 ≤ s.n ∧ s.n < 8) (hL : LFix g n L) :
    Calls Tryd.prog 35 #[.agg #[.int .i64 g.terms, .int .i64 g.nons, .int .i64 g.start, .slice A g.rules.length c], .int .i64 (m : Int)] w (LwRet g n m L w) := by
  obtain ⟨gt, gn, gs, rs⟩ := g
  dsimp only at *
  subst hgn
  have hLl : L.length = n := hL.shape.len
  have HLl := Lib.hid hLl
  have HA := Lib.hid hA
  have HS := Lib.hid hS
  have HRR := Lib.hid hrr
  have H8 := Lib.hid h8
  have HLf := Lib.hid hL
  obtain ⟨hn1, hn10⟩ := hn
  have hm9 : (m : Int) < (n : Int) := by omega
  have hm0 : (0 : Int) ≤ (m : Int) := by omega
  have hrl9 : rs.length ≤ 9223372036854775807 := by omega
  have hmk1 := mkWords n (by omega)
  have hmk2 := mkBools n (by omega)
  obtain ⟨wa, hwa⟩ : ∃ wa : World, wa = w.alloc (.cells #[.int .i64 gt, .int .i64 (n : Int), .int .i64 gs, .slice A rs.length c] 25) := ⟨_, rfl⟩
  have HWa := Lib.hid hwa
  have hba : Below w.heap.size w wa := by rw [hwa]; exact (Below.refl _ _).alloc (Nat.le_refl _) _
  have HBa := Lib.hid hba
  have HGa : Hid (Blk' wa w.heap.size 25 #[.int .i64 gt, .int .i64 (n : Int), .int .i64 gs, .slice A rs.length c]) := Lib.hid (by rw [hwa]; exact Blk'.new _ _ _)
  have HAa := Lib.hid (hA.below hba)
  have HSa : Hid (∀ b, S b → b < wa.heap.size) := Lib.hid (fun b hb => by have := hS b hb; have := hba.size; omega)
  clear hA hS hrr h8 hL hLl hwa hba
  go_enter Tryd.func35, Tryd.ntmps35
  go_wp2_with fail
  rw [← HWa.out]
  refine (rlengths_any ⟨gt, (n : Int), gs, rs⟩ n A c S wa L rfl ⟨hn1, hn10⟩ hlc hc HAa.out HSa.out hrl HRR.out HLf.out).mono ?_
  rintro e w1 ⟨LB, lc, z, rfl, hLB, hlc1, hlc2, hLge, hb1⟩
  have hG1 := HGa.out.below hb1 HGa.out.lt
  have g1 : w1.cell? ⟨w.heap.size, 1, none⟩ = some (.int .i64 (n : Int)) := hG1.cell 1
  have zg1 : w.heap.size < w1.heap.size := hG1.lt
  have zlb : LB < w1.heap.size := hLB.lt
  have zwa : w.heap.size < wa.heap.size := HGa.out.lt
  obtain ⟨w2, hw2⟩ : ∃ w2 : World, w2 = (w1.alloc (.cells (Array.replicate n (Value.slice none 0 0)) 22)).alloc (.cells (bcells (List.replicate n false)) 4) := ⟨_, rfl⟩
  have HW2 := Lib.hid hw2
  have HS2 : Hid (LwS w ⟨gt, (n : Int), gs, rs⟩ n w1.heap.size LB L z #[.int .i64 gt, .int .i64 (n : Int), .int .i64 gs, .slice A rs.length c] (List.replicate n []) (List.replicate n false) w2) := Lib.hid (by
    have hb2 : Below w1.heap.size w1 w2 := by rw [hw2]; exact ((Below.refl _ _).alloc (Nat.le_refl _) _).alloc (by simp) _
    refine ⟨SndT.init _ _ _, In8W.init n, RowsW.made ?_, ?_, bthen (bthen HBa.out hb1 HBa.out.size) hb2 (by omega), hG1.below hb2 hG1.lt, hLB.below hb2 hLB.lt⟩
    · rw [hw2, List.toArray_replicate]; exact (Blk'.new _ _ _).alloc _
    · rw [hw2]; exact Blk'.new' _ _ _ (by simp))
  obtain ⟨M, hM⟩ : ∃ M, M = msr (p8 2000) (List.replicate n []) (List.replicate n false) := ⟨_, rfl⟩
  have HM := Lib.hid hM
  clear hw2 hM hLB hb1 hG1 HGa HAa HSa HWa
  go_wp2_with fail
  rw [← HW2.out]
  clear g1 HW2
  go_loopg [8] (M + 1) (fun gk ag wr => LwO w ⟨gt, (n : Int), gs, rs⟩ n w1.heap.size LB L z #[.int .i64 gt, .int .i64 (n : Int), .int .i64 gs, .slice A rs.length c] gk ag wr)
  case atStart => exact ⟨_, _, true, rfl, HS2.out, (fun e => by simp at e), by rw [HM.out]; simp⟩
  case round =>
    obtain ⟨wo, hwo⟩ : ∃ wo : World, wo = wr := ⟨_, rfl⟩
    subst hwo
    obtain ⟨W0, K0, a0, rfl, hs, hst, hgk⟩ := hrel
    have HSo := Lib.hid hs
    have HSt := Lib.hid hst
    have HGk := Lib.hid hgk
    have g3 : wo.cell? ⟨w.heap.size, 3, none⟩ = some (.slice A rs.length c) := hs.gb.cell 3
    clear hs hst hgk HS2 HM
    cases a0
    · obtain ⟨Am, cm, h1, h2, h3, h4⟩ := HSo.out.rows.at_ (m := m) (u := W0.getD m []) (by rw [List.getD_eq_getElem?_getD, List.getElem?_eq_getElem (by rw [HSo.out.snd.lw]; exact hm)]; rfl)
      have H4 := Lib.hid h4
      clear h4
      go_wp2
      go_ret
      exact ⟨W0, K0, Am, cm, rfl, HSo.out.snd, HSt.out (by first | exact rfl | exact trivial), h2, h3, H4.out.keep (fun _ _ _ => rfl) (fun b hb => ⟨by have := hb.1; omega, hb.2⟩), HSo.out.below⟩
    · go_wp2_with fail
      go_loopw [8, 27] (fun ag i wr => RlwR w ⟨gt, (n : Int), gs, rs⟩ n w1.heap.size LB L z #[.int .i64 gt, .int .i64 (n : Int), .int .i64 gs, .slice A rs.length c] W0 K0 ag i wr) (fun _ i _ => rs.length - (intOf i).toNat)
      case atStart => exact ⟨0, W0, K0, false, Nat.zero_le _, rfl, rfl, LwJ.start HSo.out⟩
      case round =>
        obtain ⟨wi, hwi⟩ : ∃ wi : World, wi = wr := ⟨_, rfl⟩
        subst hwi
        obtain ⟨j, W, K, a, hj, rfl, rfl, hJ⟩ := hrel
        have HJ := Lib.hid hJ
        dsimp only at hj
        clear hJ g3
        by_cases hlt : j < rs.length
        · obtain ⟨q, hq⟩ := get_some hlt
          obtain ⟨bq, oq, Aq, cq, rfl, hSb, hbs, hi, hrc, hcr, hEr, hc0, hc1⟩ := (HA.out.belowB HJ.out.1.below HS.out).rule hq
          have hqm := List.mem_of_getElem? hq
          obtain ⟨hl0, hl1, hr4, hsy⟩ := HRR.out q hqm
          have HQ := Lib.hid (And.intro hq (And.intro hqm hsy))
          have H8q := Lib.hid (H8.out q hqm)
          obtain ⟨ql, qr⟩ := q
          dsimp only at hi hrc hcr hEr hc0 hc1 hl0 hl1 hr4 hsy
          have hj0 : (0 : Int) ≤ (j : Int) := by omega
          have hl2 : ql < (n : Int) := by omega
          have hqlen : qr.length ≤ 9223372036854775807 := by omega
          obtain ⟨wq, hwq⟩ : ∃ wq : World, wq = wi.alloc (.cells #[.int .i64 ql, .slice Aq qr.length cq] 68) := ⟨_, rfl⟩
          have HWq := Lib.hid hwq
          have hbq : Below wi.heap.size wi wq := by rw [hwq]; exact (Below.refl _ _).alloc (Nat.le_refl _) _
          have HBq := Lib.hid hbq
          have hzq : wq.heap.size = wi.heap.size + 1 := by rw [hwq]; simp
          have hQ : Blk' wq wi.heap.size 68 #[.int .i64 ql, .slice Aq qr.length cq] := by rw [hwq]; exact Blk'.new _ _ _
          have HQb := Lib.hid hQ
          have q1 : wq.cell? ⟨wi.heap.size, 1, none⟩ = some (.slice Aq qr.length cq) := hQ.cell 1
          have HEq := Lib.hid (hEr.below hbq)
          have HJs := Lib.hid HJ.out.1
          have hzo : w1.heap.size + 1 < wi.heap.size := HJs.out.kb.lt
          clear hq hqm hsy hbq hEr hi hQ hwq
          have hzl : wi.heap.size < wq.heap.size := by omega
          go_upto_region 10 with (fail)
          rw [← HWq.out]
          go_wp2_with fail
          go_loopw [11, 12, 35] (fun v ok i wr => RlwS w1.heap.size W K wi wq qr v ok i wr) (fun _ _ i _ => qr.length - (intOf i).toNat)
          case atStart => exact ⟨0, Nat.zero_le _, rfl, rfl, (by rw [← hzq]; exact Own.made (cap := 0) _ (Nat.le_refl _) (by omega) rfl), (Below.refl _ _).alloc (Nat.le_refl _) _⟩
          case round =>
            obtain ⟨wz, hwz⟩ : ∃ wz : World, wz = wr := ⟨_, rfl⟩
            subst hwz
            obtain ⟨k, hk, rfl, rfl, hown, hbz⟩ := hrel
            obtain ⟨Au, cu, rfl, hu1, hu2, hu3⟩ := hown.form
            have HO := Lib.hid hown
            have HBz := Lib.hid hbz
            have hsz : wq.heap.size ≤ wz.heap.size := hbz.size
            have hsz2 : wi.heap.size < wz.heap.size := by omega
            have hko : w1.heap.size < wz.heap.size := by omega
            have hko2 : w1.heap.size + 1 < wz.heap.size := by omega
            have hSz := (HJs.out.next HBq.out).next HBz.out
            have HSz := Lib.hid hSz
            have hQz := HQb.out.below hbz HQb.out.lt
            have q0 : wz.cell? ⟨wi.heap.size, 0, none⟩ = some (.int .i64 ql) := hQz.cell 0
            have HEz := Lib.hid (HEq.out.below hbz)
            have HBiz : Hid (Below wi.heap.size wi wz) := Lib.hid (bthen HBq.out hbz (by omega))
            have hcl := (HJs.out.in8.cat (qr.take k) (fun s hs => H8q.out s (List.mem_of_mem_take hs))).2
            have hcl2 : (catW W (qr.take k)).length ≤ 8000 := by simp only [List.length_take] at hcl; omega
            clear hown hbz hSz hQz hcl hu3
            by_cases hml : k < qr.length
            · obtain ⟨s, hs⟩ := get_some hml
              have Hts := Lib.hid (take_snoc hs)
              have hsr := HQ.out.2.2 s (List.mem_of_getElem? hs)
              have hs8 := H8q.out s (List.mem_of_getElem? hs)
              obtain ⟨bs, os, rfl, hSs, hbss, hsi, hsc0, hsc1⟩ := HEz.out.sym hs
              have HI := Lib.hid hsi
              obtain ⟨st, sn⟩ := s
              dsimp only at *
              have hk0 : (0 : Int) ≤ (k : Int) := by omega
              have hs0 : 0 ≤ sn := hsr.1
              clear hs hsi
              cases st
              · have hs1 : sn.toNat < n := hsr.2 rfl
                have hs2 : sn < (n : Int) := by omega
                obtain ⟨y, hy⟩ := get_some (show sn.toNat < W.length by rw [HJs.out.snd.lw]; exact hs1)
                obtain ⟨Ay, cy, cyy, hy1, hy2, hyE⟩ := HJs.out.rows.at_below HBiz.out hy
                obtain ⟨v, hv⟩ := get_some (show sn.toNat < K.length by rw [HJs.out.snd.lk]; exact hs1)
                have cv : wz.cell? ⟨w1.heap.size + 1, sn.toNat, none⟩ = some (.bool v) := (HSz.out.kb.cell _).trans (bcells_get hv)
                have hyl : y.length ≤ 2000 := (HJs.out.in8 y (List.mem_of_getElem? hy)).2
                have HyE : Hid (Els (wz.alloc (.cells #[.bool false, .int .i64 sn] 82)) (OwnT (fun b => w1.heap.size + 2 ≤ b ∧ b < wi.heap.size) wq.heap.size (.slice Au (catW W (qr.take k)).length cu) (wz.alloc (.cells #[.bool false, .int .i64 sn] 82))) y Ay) := Lib.hid ((hyE.below ((Below.refl _ _).alloc (Nat.le_refl _) _)).own (HO.out.alloc _) (fun b hb => by have := hb.2; omega) (by simp; omega))
                have HOa := Lib.hid (HO.out.alloc (.cells #[.bool false, .int .i64 sn] 82))
                have HBa2 := Lib.hid (HBz.out.alloc (by omega) (.cells #[.bool false, .int .i64 sn] 82))
                have HCs := Lib.hid (show catW W (qr.take (k + 1)) = catW W (qr.take k) ++ y by rw [Hts.out, catW_snoc]; unfold pW; simp only [Bool.false_eq_true, if_false]; rw [List.getD_eq_getElem?_getD, hy]; rfl)
                have HKs := Lib.hid (show knowsB K (qr.take (k + 1)) = (knowsB K (qr.take k) && v) by rw [Hts.out, knowsB_snoc]; simp only [Bool.false_or]; rw [List.getD_eq_getElem?_getD, hv]; rfl)
                clear hy hv hyE hsr hs8
                generalize knowsB K (qr.take k) = kb at *
                cases kb
                · go_wp2_with (at_builtin; (refine wpList_ownMany _ rfl _ _ elemInt rfl rfl HOa.out y rfl rfl HyE.out (by omega) (by omega) (by simp; omega) ?_); (intro v8 w8 hown8 hg8 hat8); (have H8' := Lib.hid (And.intro hown8 hg8)); (clear hown8 hg8 hat8))
                  go_roundw
                  case rel => exact ⟨k + 1, hml, by go_num, by rw [HKs.out]; simp, by rw [HCs.out]; exact H8'.out.1, bgrown HBa2.out H8'.out.2 HOa.out (Nat.le_refl _) (by simp; omega)⟩
                  case measure => simp [intOf]; omega
                · go_wp2_with (at_builtin; (refine wpList_ownMany _ rfl _ _ elemInt rfl rfl HOa.out y rfl rfl HyE.out (by omega) (by omega) (by simp; omega) ?_); (intro v8 w8 hown8 hg8 hat8); (have H8' := Lib.hid (And.intro hown8 hg8)); (clear hown8 hg8 hat8))
                  go_roundw
                  case rel => exact ⟨k + 1, hml, by go_num, by rw [HKs.out]; simp, by rw [HCs.out]; exact H8'.out.1, bgrown HBa2.out H8'.out.2 HOa.out (Nat.le_refl _) (by simp; omega)⟩
                  case measure => simp [intOf]; omega
              · have HCs := Lib.hid (show catW W (qr.take (k + 1)) = catW W (qr.take k) ++ [sn] by rw [Hts.out, catW_snoc]; rfl)
                have HKs := Lib.hid (show knowsB K (qr.take (k + 1)) = knowsB K (qr.take k) by rw [Hts.out, knowsB_snoc]; simp)
                have HOa := Lib.hid ((HO.out.alloc (.cells #[.bool true, .int .i64 sn] 82)).alloc (.cells #[.int .i64 sn] 3))
                have HBa2 := Lib.hid ((HBz.out.alloc (by omega) (.cells #[.bool true, .int .i64 sn] 82)).alloc (by simp; omega) (.cells #[.int .i64 sn] 3))
                have HAt := Lib.hid (at_new1 wz [.int .i64 sn] 3 (.cells #[.bool true, .int .i64 sn] 82))
                clear hsr hs8
                go_wp2_with (at_builtin; (refine wpList_own1 _ rfl _ _ elemInt rfl rfl HOa.out sn [.int .i64 sn] rfl HAt.out ⟨rfl, HI.out⟩ (by omega) (by omega) (by simp; omega) ?_); (intro v8 w8 hown8 hg8 hat8); (have H8' := Lib.hid (And.intro hown8 hg8)); (clear hown8 hg8 hat8))
                go_roundw
                case rel => exact ⟨k + 1, hml, by go_num, by rw [HKs.out], by rw [HCs.out]; exact H8'.out.1, bgrown HBa2.out H8'.out.2 HOa.out (Nat.le_refl _) (by simp; omega)⟩
                case measure => simp [intOf]; omega
            · have hE : qr.take k = qr := List.take_of_length_le (by omega)
              rw [hE] at HO hu1 hcl2 ⊢
              obtain ⟨l, hl⟩ := get_some (show ql.toNat < L.length by rw [HLl.out]; exact hl1)
              obtain ⟨y, hy⟩ := get_some (show ql.toNat < W.length by rw [HJs.out.snd.lw]; exact hl1)
              obtain ⟨v, hv⟩ := get_some (show ql.toNat < K.length by rw [HJs.out.snd.lk]; exact hl1)
              have cl_ : wz.cell? ⟨LB, ql.toNat, none⟩ = some (.int .i64 l) := (HSz.out.lb.cell _).trans ((slack_get (by rw [icells_size, HLl.out]; exact hl1)).trans (icells_get hl))
              have cv : wz.cell? ⟨w1.heap.size + 1, ql.toNat, none⟩ = some (.bool v) := (HSz.out.kb.cell _).trans (bcells_get hv)
              have fv := HSz.out.kb.frozen ql.toNat
              have fy := HSz.out.rows.frozen ql.toNat
              obtain ⟨Ay, cy, cyy, hy1, hy2, hyE⟩ := HSz.out.rows.at_ hy
              have HyE := Lib.hid hyE
              have hyl : y.length ≤ 2000 := (HJs.out.in8 y (List.mem_of_getElem? hy)).2
              have eL : L.getD ql.toNat 0 = l := by rw [List.getD_eq_getElem?_getD, hl]; rfl
              have eK : K.getD ql.toNat false = v := by rw [List.getD_eq_getElem?_getD, hv]; rfl
              have eW : W.getD ql.toNat [] = y := by rw [List.getD_eq_getElem?_getD, hy]; rfl
              obtain ⟨u, hu⟩ : ∃ u, u = catW W qr := ⟨_, rfl⟩
              obtain ⟨kb, hkb⟩ : ∃ kb, kb = knowsB K qr := ⟨_, rfl⟩
              have HOk : Hid (okR L W K ⟨ql, qr⟩ ↔ (kb = true ∧ (u.length : Int) = l ∧ (u.length : Int) ≤ 2000)) := Lib.hid (by rw [hu, hkb, ← eL]; exact Iff.rfl)
              have HSt1 : Hid ((kb = true ∧ (u.length : Int) = l ∧ (u.length : Int) ≤ 2000 → v = true ∧ leW y u) → Stab1 L W K ⟨ql, qr⟩) := Lib.hid (fun h ho => by
                have h2 := h (HOk.out.1 ho)
                refine ⟨eK.trans h2.1, ?_⟩
                show leW (W.getD ql.toNat []) (catW W qr)
                rw [eW, ← hu]; exact h2.2)
              have h8u : In8 u := by rw [hu]; exact (HJs.out.in8.cat qr H8q.out).1
              have HYs : Hid (∀ A1 c1, (kb = true ∧ (u.length : Int) = l ∧ (u.length : Int) ≤ 2000) → (v = true → cmpL u y < 0) → u.length ≤ c1 → c1 ≤ 9223372036854775807 → Els wz (fun b => w1.heap.size + 2 ≤ b ∧ b < wz.heap.size) u A1 →
                  ∃ W' K', LwJ w ⟨gt, (n : Int), gs, rs⟩ n w1.heap.size LB L z #[.int .i64 gt, .int .i64 (n : Int), .int .i64 gs, .slice (some ⟨bq, oq, none⟩) rs.length c] rs W0 K0 true (j + 1) W' K' ((wz.setCell ⟨w1.heap.size, ql.toNat, none⟩ (.slice A1 u.length c1)).setCell ⟨w1.heap.size + 1, ql.toNat, none⟩ (.bool true))) := Lib.hid (fun A1 c1 ho hb hc1 hc2 hE1 => by
                have h := HJ.out.yes (q := ⟨ql, qr⟩) HQ.out.1 HRR.out HQ.out.2.1 (HOk.out.2 ho) (by rw [← hu]; exact h8u) (by intro hk; rw [← hu]; show cmpL u (W.getD ql.toNat []) < 0; rw [eW]; exact hb (by rw [← eK]; exact hk)) HBiz.out zg1 zlb (A := A1) (c := c1) (by rw [← hu]; exact hc1) hc2 (by rw [← hu]; exact hE1)
                rw [← hu] at h
                exact ⟨_, _, h⟩)
              rw [← hu] at HO hu1 hcl2 ⊢
              rw [← hkb]
              obtain ⟨A9, c9, hv9, hu8, hu9, hE9⟩ := HO.out.vl.slice
              injection hv9 with e1 e2 e3
              subst e1; subst e3
              have HE9 := Lib.hid (hE9.keep (S' := fun b => w1.heap.size + 2 ≤ b ∧ b < wz.heap.size) (fun _ _ _ => rfl) (fun b hb => ⟨by have := hb.1; omega, hb.2⟩))
              clear hl hy hv hyE eL eK eW hu hkb h8u hE9 e2 hE
              cases kb
              · have HN := Lib.hid (HSt1.out (fun h => by simp at h))
                go_wp2
                go_roundw
                case rel => exact ⟨j + 1, W, K, a, hlt, by go_num, rfl, HJ.out.no HQ.out.1 HN.out HBiz.out⟩
                case measure => simp [intOf]; omega
              · by_cases hul : (u.length : Int) = l
                · have d1 : ((u.length : Int) != l) = false := by simp [hul]
                  by_cases hu2k : 2000 < u.length
                  · have d2 : decide ((2000 : Int) < (u.length : Int)) = true := decide_eq_true (by omega)
                    have HN := Lib.hid (HSt1.out (fun h => by omega))
                    clear hul
                    go_wp2
                    go_roundw
                    case rel => exact ⟨j + 1, W, K, a, hlt, by go_num, rfl, HJ.out.no HQ.out.1 HN.out HBiz.out⟩
                    case measure => simp [intOf]; omega
                  · have d2 : decide ((2000 : Int) < (u.length : Int)) = false := decide_eq_false (by omega)
                    cases v
                    · obtain ⟨W', K', hJ'⟩ := HYs.out Au cu ⟨rfl, hul, by omega⟩ (fun e => by simp at e) hu8 hu9 HE9.out
                      have HJ' := Lib.hid hJ'
                      clear hul hJ'
                      go_wp2_with fail
                      go_region
                      all_goals
                        go_wp2
                        go_roundw
                        case rel => exact ⟨j + 1, W', K', true, hlt, by go_num, rfl, HJ'.out.drew⟩
                        case measure => simp [intOf]; omega
                    · by_cases hcm : cmpL u y < 0
                      · obtain ⟨W', K', hJ'⟩ := HYs.out Au cu ⟨rfl, hul, by omega⟩ (fun _ => hcm) hu8 hu9 HE9.out
                        have HJ' := Lib.hid hJ'
                        have d3 : decide (cmpL u y < 0) = true := decide_eq_true hcm
                        clear hul hJ' hcm
                        go_wp2_with fail
                        refine (compareInts_any u y Au Ay cu cy _ _ wz (by omega) (by omega) HE9.out HyE.out).mono ?_
                        rintro e w9 ⟨rfl, rfl⟩
                        go_wp2_with fail
                        go_region
                        all_goals
                          go_wp2
                          go_roundw
                          case rel => exact ⟨j + 1, W', K', true, hlt, by go_num, rfl, HJ'.out.drew⟩
                          case measure => simp [intOf]; omega
                      · have HN := Lib.hid (HSt1.out (fun _ => ⟨rfl, by false_or_by_contra; rename_i h; exact hcm ((cmpL_lt _ _).2 h)⟩))
                        have d3 : decide (cmpL u y < 0) = false := decide_eq_false hcm
                        clear hul hcm
                        go_wp2_with fail
                        refine (compareInts_any u y Au Ay cu cy _ _ wz (by omega) (by omega) HE9.out HyE.out).mono ?_
                        rintro e w9 ⟨rfl, rfl⟩
                        go_wp2
                        go_roundw
                        case rel => exact ⟨j + 1, W, K, a, hlt, by go_num, rfl, HJ.out.no HQ.out.1 HN.out HBiz.out⟩
                        case measure => simp [intOf]; omega
                · have d1 : ((u.length : Int) != l) = true := by simp [hul]
                  have HN := Lib.hid (HSt1.out (fun h => absurd h.2.1 hul))
                  clear hul
                  go_wp2
                  go_roundw
                  case rel => exact ⟨j + 1, W, K, a, hlt, by go_num, rfl, HJ.out.no HQ.out.1 HN.out HBiz.out⟩
                  case measure => simp [intOf]; omega
        · have E : j = rs.length := by omega
          subst E
          have HEn := Lib.hid (HJ.out.end_ HGk.out)
          go_wp2
          go_roundg (msr (p8 2000) W K + (if a then 1 else 0))
          case measure => exact HEn.out.1
          case rel => exact ⟨W, K, a, rfl, HJ.out.1, HEn.out.2, Nat.le_refl _⟩
end Go.Proofs.YtpkfalhpkkponaaDoor
