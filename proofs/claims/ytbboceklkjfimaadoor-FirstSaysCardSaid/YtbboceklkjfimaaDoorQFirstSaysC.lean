/- The walk of the law FirstSays. -/
import Derived.Test.YtbboceklkjfimaaDoorQFirstSaysP
import Derived.Deep.QuietTactic
import Derived.BigQuiet
namespace Go.Proofs.YtbboceklkjfimaaDoor
open Go.RowKit
set_option linter.unusedVariables false

set_option maxRecDepth 100000 in
set_option maxHeartbeats 4000000 in
theorem firstSays_any (g : Gram) (l : List Sym) (A B : Option Addr) (c d : Nat) (S : Nat → Prop) (w : World) (h64 : I64 g.terms ∧ I64 g.nons ∧ I64 g.start) (hlc : g.rules.length ≤ c) (hc : c ≤ 9223372036854775807) (hA : Els w S g.rules A) (hS : ∀ b, S b → b < w.heap.size) (hld : l.length ≤ d) (hd : d ≤ 9223372036854775807) (hB : Els w S l B) :
    Calls Tryd.prog 4 #[.agg #[.int .i64 g.terms, .int .i64 g.nons, .int .i64 g.start, .slice A g.rules.length c], .slice B l.length d] w fun e w' => e = .returned (.bool true) ∧ Below w.heap.size w w' := by
  obtain ⟨gt, gn, gs, rs⟩ := g
  dsimp only at *
  have hba : Below w.heap.size w (w.alloc (.cells #[.int .i64 gt, .int .i64 gn, .int .i64 gs, .slice A rs.length c] 35)) := (Below.refl _ _).alloc (Nat.le_refl _) _
  have HB0 := Lib.hid hba
  have HG0 := Lib.hid (Blk'.new w 35 #[.int .i64 gt, .int .i64 gn, .int .i64 gs, .slice A rs.length c])
  have HA := Lib.hid hA
  have HBl := Lib.hid hB
  have HS := Lib.hid hS
  have H64 := Lib.hid h64
  have hl9 : l.length ≤ 9223372036854775807 := by omega
  clear hba hA hS h64 hB
  go_enter Tryd.func4, Tryd.ntmps4
  go_wp2_with fail
  refine (simple_any _).mono ?_
  rintro e w1 ⟨As, rfl, hEs, hb1⟩
  have HEs := Lib.hid hEs
  have HB1 := Lib.hid (bthen HB0.out hb1 (by simp))
  have HG1 := Lib.hid (HG0.out.below hb1 HG0.out.lt)
  clear hEs hb1
  go_wp2_with fail
  refine (null_any simpleG 1 1 As 2 _ w1 rfl rfl simpleC (by decide) (by decide) HEs.out (fun b hb => hb.2)).mono ?_
  rintro e w2 ⟨be, e0, f0, rfl, hst, hE0, hge, hb2⟩
  rw [simple_stable hst] at hE0
  have HB2 := Lib.hid (bthen HB1.out hb2 HB1.out.size)
  have HG2 := Lib.hid (HG1.out.below hb2 HG1.out.lt)
  have hba3 : Below w2.heap.size w2 (w2.alloc (.cells #[.bool true] 4)) := (Below.refl _ _).alloc (Nat.le_refl _) _
  have HE1 := Lib.hid (els_brow (S := fun b => b = be) (hE0.below hba3 hE0.lt) rfl)
  have HE2 := Lib.hid (els_brow (S := fun b => b = w2.heap.size) (ms := [true]) (Blk'.new w2 4 #[.bool true]) rfl)
  have HB3 := Lib.hid (bthen HB2.out hba3 HB2.out.size)
  have HG3 := Lib.hid (HG2.out.below hba3 HG2.out.lt)
  clear hst hE0 hb2 hba3 HEs
  go_wp2_with fail
  refine (eq_trueB _ _ [true] 1 1 _ _ _ _ _ rfl rfl (by decide) HE1.out HE2.out).mono ?_
  rintro e w4 ⟨rfl, hb4⟩
  have HB4 := Lib.hid (bthen HB3.out hb4 HB3.out.size)
  have hG4 := HG3.out.below hb4 HG3.out.lt
  have HG4 := Lib.hid hG4
  have g0 : w4.cell? ⟨w.heap.size, 0, none⟩ = some (.int .i64 gt) := hG4.cell 0
  have g1 : w4.cell? ⟨w.heap.size, 1, none⟩ = some (.int .i64 gn) := hG4.cell 1
  have g2 : w4.cell? ⟨w.heap.size, 2, none⟩ = some (.int .i64 gs) := hG4.cell 2
  have g3 : w4.cell? ⟨w.heap.size, 3, none⟩ = some (.slice A rs.length c) := hG4.cell 3
  have zG4 := hG4.lt
  clear hb4 hG4 HE1 HE2 HB3 HG3 HB2 HG2 HB1 HG1 HB0 HG0
  by_cases hce : checkI ⟨gt, gn, gs, rs⟩ = 0
  · have hv := validG_of hce
    obtain ⟨m, hm⟩ : ∃ m : Nat, gt = (m : Int) := ⟨gt.toNat, by have := hv.t1; dsimp only at this; omega⟩
    obtain ⟨n, hn⟩ : ∃ n : Nat, gn = (n : Int) := ⟨gn.toNat, by have := hv.n1; dsimp only at this; omega⟩
    subst hm; subst hn
    have hri := hv.rulesIn rfl
    have hm8 : 1 ≤ m ∧ m ≤ 8 := by have := hv.t1; have := hv.t8; dsimp only at *; omega
    have hn10 : 1 ≤ n ∧ n ≤ 10 := by have := hv.n1; have := hv.n10; dsimp only at *; omega
    obtain ⟨L, hL⟩ := lfix_ex ⟨(m : Int), (n : Int), gs, rs⟩ n hn10.2 (fun q hq => ⟨(hri q hq).2.1, (hri q hq).2.2.1⟩)
    have HV := Lib.hid hv
    have HRI := Lib.hid hri
    have HC := Lib.hid hce
    have HL := Lib.hid hL
    have HN := Lib.hid hn10
    have HRl : Hid (rs.length ≤ 1000) := Lib.hid (by have := hv.len; dsimp only at this; omega)
    have hnl : (nullB L).length = n := by unfold nullB; rw [List.length_map]; exact hL.shape.len
    have hmi : (m : Int) ≤ 8 := by omega
    have hni : (n : Int) ≤ 10 := by omega
    clear hv hri hce hL
    go_wp2_with fail
    refine (null_any ⟨(m : Int), (n : Int), gs, rs⟩ m n A c S _ rfl rfl HC.out hlc hc (HA.out.belowB HB4.out HS.out) (fun b hb => by have := HS.out b hb; have := HB4.out.size; omega)).mono ?_
    rintro e w5 ⟨b5, e5, f5, rfl, hst5, hE5, hge5, hb5⟩
    have e5eq := hst5.null HV.out rfl rfl HL.out
    rw [e5eq] at hE5
    have HB5 := Lib.hid (bthen HB4.out hb5 HB4.out.size)
    have hG5 := HG4.out.below hb5 HG4.out.lt
    have HG5 := Lib.hid hG5
    have HE5 := Lib.hid hE5
    have k0 : w5.cell? ⟨w.heap.size, 0, none⟩ = some (.int .i64 (m : Int)) := hG5.cell 0
    have k1 : w5.cell? ⟨w.heap.size, 1, none⟩ = some (.int .i64 (n : Int)) := hG5.cell 1
    have k2 : w5.cell? ⟨w.heap.size, 2, none⟩ = some (.int .i64 gs) := hG5.cell 2
    have k3 : w5.cell? ⟨w.heap.size, 3, none⟩ = some (.slice A rs.length c) := hG5.cell 3
    have zG5 := hG5.lt
    clear g0 g1 g2 g3 hst5 hE5 hge5 hb5 hG5 e5eq
    go_wp2_with fail
    refine (first_any ⟨(m : Int), (n : Int), gs, rs⟩ m n A c S _ rfl rfl HC.out hlc hc (HA.out.belowB HB5.out HS.out) (fun b hb => by have := HS.out b hb; have := HB5.out.size; omega)).mono ?_
    rintro e w6 ⟨bf, bs, cf, e6, f6, rfl, hst6, hvl6, _, _, _, _, hb6⟩
    have HSt6 := Lib.hid hst6
    have hf6 : f6.length = n := hst6.shape.f
    have HEf6 := Lib.hid (hvl6.els.2.2.2.keep (S' := fun b => b < w6.heap.size) (fun _ _ _ => rfl) (fun b hb => hb.2))
    have HB6 := Lib.hid (bthen HB5.out hb6 HB5.out.size)
    have hG6 := HG5.out.below hb6 HG5.out.lt
    have HG6 := Lib.hid hG6
    have HE6 := Lib.hid (HE5.out.below hb6 HE5.out.lt)
    have p0 : w6.cell? ⟨w.heap.size, 0, none⟩ = some (.int .i64 (m : Int)) := hG6.cell 0
    have p1 : w6.cell? ⟨w.heap.size, 1, none⟩ = some (.int .i64 (n : Int)) := hG6.cell 1
    have p2 : w6.cell? ⟨w.heap.size, 2, none⟩ = some (.int .i64 gs) := hG6.cell 2
    have p3 : w6.cell? ⟨w.heap.size, 3, none⟩ = some (.slice A rs.length c) := hG6.cell 3
    have zG6 := hG6.lt
    clear k0 k1 k2 k3 hst6 hvl6 hb6 hG6 HG5 HE5
    go_wp2_with fail
    refine (ofPub_any ⟨(m : Int), (n : Int), gs, rs⟩ m n A c S _ l B d S rfl rfl HC.out hlc hc (HA.out.belowB HB6.out HS.out) (fun b hb => by have := HS.out b hb; have := HB6.out.size; omega) hld hd (HBl.out.belowB HB6.out HS.out) (fun b hb => by have := HS.out b hb; have := HB6.out.size; omega)).mono ?_
    rintro e w7 hret
    obtain ⟨hb7, vc, vi, ve, he7⟩ : Below w6.heap.size w6 w7 ∧ ∃ vc vi ve, e = .returned (.tuple #[vc, .bool vi, .int .i64 ve]) := by
      rcases hret with ⟨_, h2, h3⟩ | ⟨_, b, e, f, _, h2, _, _, h3⟩
      · exact ⟨h3, _, _, _, h2⟩
      · exact ⟨h3, _, _, _, h2⟩
    subst he7
    have HRet := Lib.hid hret
    have HB7 := Lib.hid (bthen HB6.out hb7 HB6.out.size)
    have hG7 := HG6.out.below hb7 HG6.out.lt
    have HG7 := Lib.hid hG7
    have HE7 := Lib.hid (HE6.out.below hb7 HE6.out.lt)
    have HEf7 := Lib.hid (HEf6.out.below hb7)
    have q0 : w7.cell? ⟨w.heap.size, 0, none⟩ = some (.int .i64 (m : Int)) := hG7.cell 0
    have q1 : w7.cell? ⟨w.heap.size, 1, none⟩ = some (.int .i64 (n : Int)) := hG7.cell 1
    have q2 : w7.cell? ⟨w.heap.size, 2, none⟩ = some (.int .i64 gs) := hG7.cell 2
    have q3 : w7.cell? ⟨w.heap.size, 3, none⟩ = some (.slice A rs.length c) := hG7.cell 3
    have zG7 := hG7.lt
    clear p0 p1 p2 p3 hb7 hG7 hret
    go_wp2_with fail
    refine (gramErr_any ⟨(m : Int), (n : Int), gs, rs⟩ A c S _ H64.out hlc hc (HA.out.belowB HB7.out HS.out) (fun b hb => by have := HS.out b hb; have := HB7.out.size; omega)).mono ?_
    rintro e w8 ⟨rfl, hb8⟩
    rw [HC.out]
    have H78 := Lib.hid hb8
    have HB8 := Lib.hid (bthen HB7.out hb8 HB7.out.size)
    have HG8 := Lib.hid (HG7.out.below hb8 HG7.out.lt)
    have HE8 := Lib.hid (HE7.out.below hb8 HE7.out.lt)
    have HEf8 := Lib.hid (HEf7.out.below hb8)
    have r1 : w8.cell? ⟨w.heap.size, 1, none⟩ = some (.int .i64 (n : Int)) := HG8.out.cell 1
    have zG8 := HG8.out.lt
    clear hb8 q0 q1 q2 q3
    go_wp2_with fail
    go_loopw [15, 83] (fun v i wr => ∃ (k : Nat) (bs : List Nat), i = .int .i64 k ∧ RowL w8 f6 m v k bs wr) (fun _ i _ => n - (intOf i).toNat)
    case atStart => exact ⟨0, [], rfl, RowL.start _ _ _⟩
    case round =>
      obtain ⟨wo, hwo⟩ : ∃ wo : World, wo = wr := ⟨_, rfl⟩
      subst hwo
      obtain ⟨k, bs2, rfl, hrow⟩ := hrel
      have HRow := Lib.hid hrow
      obtain ⟨h1, h2, h3, h4, h5, h6, h7⟩ := hrow
      have hkn : k ≤ n := by omega
      have HBo := Lib.hid h3
      have HOw := Lib.hid h4
      have hGo := HG8.out.below h3 HG8.out.lt
      have HGo := Lib.hid hGo
      have u0 : wo.cell? ⟨w.heap.size, 0, none⟩ = some (.int .i64 (m : Int)) := hGo.cell 0
      have u1 : wo.cell? ⟨w.heap.size, 1, none⟩ = some (.int .i64 (n : Int)) := hGo.cell 1
      have u2 : wo.cell? ⟨w.heap.size, 2, none⟩ = some (.int .i64 gs) := hGo.cell 2
      have u3 : wo.cell? ⟨w.heap.size, 3, none⟩ = some (.slice A rs.length c) := hGo.cell 3
      have zGo := hGo.lt
      have HBwo := Lib.hid (bthen HB8.out h3 HB8.out.size)
      clear h1 h2 h3 h4 h5 h6 h7 r1 hGo
      by_cases hlt : k < n
      · have hk0 : (0 : Int) ≤ (k : Int) := by omega
        have hk1 : (k : Int) < (n : Int) := by omega
        obtain ⟨ws, hws⟩ : ∃ ws : World, ws = wo.alloc (.cells #[.bool false, .int .i64 (k : Int)] 50) := ⟨_, rfl⟩
        have hbs : Below wo.heap.size wo ws := by rw [hws]; exact (Below.refl _ _).alloc (Nat.le_refl _) _
        have i0 : I64 (k : Int) := ⟨by omega, by omega⟩
        have HLs : Hid (Els ws (fun b => b = wo.heap.size) [(⟨false, (k : Int)⟩ : Sym)] (some ⟨wo.heap.size, 0, none⟩)) := Lib.hid (by rw [hws]; exact els_of_blk [[.bool false, .int .i64 (k : Int)]] (Blk'.new wo _ _) rfl rfl (rd_one ⟨rfl, i0⟩) rfl)
        have HBs := Lib.hid (bthen HBwo.out hbs HBwo.out.size)
        have Hbs := Lib.hid hbs
        have HWs := Lib.hid hws
        have zws : wo.heap.size < ws.heap.size := by rw [hws]; simp
        obtain ⟨r, hr⟩ := get_some (show k < f6.length by omega)
        have HR := Lib.hid (And.intro hr (HSt6.out.firstRow HV.out rfl rfl hr))
        clear hws hbs i0 hr
        go_wp2_with fail
        rw [← HWs.out]
        refine (rfirstOf_any ⟨(m : Int), (n : Int), gs, rs⟩ m n A c S ws L [⟨false, (k : Int)⟩] (some ⟨wo.heap.size, 0, none⟩) 1 1 (fun b => b = wo.heap.size) rfl rfl HC.out hlc hc (HA.out.belowB HBs.out HS.out) (fun b hb => by have := HS.out b hb; have := HBs.out.size; omega) HL.out rfl (by simp) (fun x hx => by simp at hx; subst hx; exact ⟨hk0, by simp; omega⟩) (by simp) (by omega) HLs.out (fun b hb => by omega)).mono ?_
        rintro e w9 ⟨R, row, rfl, hrow, hRb, hRge, hb9⟩
        obtain rfl : row = r := hrow.same HR.out.2
        have hba : Below w9.heap.size w9 (w9.alloc (.cells #[.slice (some ⟨R, 0, none⟩) m m] 37)) := (Below.refl _ _).alloc (Nat.le_refl _) _
        have hbm : Below wo.heap.size wo (w9.alloc (.cells #[.slice (some ⟨R, 0, none⟩) m m] 37)) := bthen (bthen Hbs.out hb9 (by omega)) hba (by have := hb9.size; omega)
        have HBm := Lib.hid hbm
        have HR6 := Lib.hid (row_below HOw.out hbm)
        have HNb := Lib.hid (hRb.below hba hRb.lt)
        have HSz : Hid (w8.heap.size ≤ (w9.alloc (.cells #[.slice (some ⟨R, 0, none⟩) m m] 37)).heap.size) := Lib.hid (by have := HBo.out.size; have := hbm.size; omega)
        have HRg : Hid (wo.heap.size ≤ R) := Lib.hid (by omega)
        clear hrow hRb hRge hb9 hba hbm u0 u1 u2 u3
        go_wp2_with (at_builtin; refine wpList_row1 rfl _ _ elemBools rfl rfl rfl HR6.out (u := .slice (some ⟨R, 0, none⟩) m m) rfl (by have h := (Blk'.new w9 37 #[.slice (some ⟨R, 0, none⟩) m m]).cell 0; exact h) rfl (by omega) (by omega) HSz.out ?_; intro v' w10 hown7 hg7 hat7; have H7 := Lib.hid (And.intro hown7 (And.intro hg7 hat7)); clear hown7 hg7 hat7)
        go_roundw
        case rel => exact ⟨k + 1, _, by go_num, RowL.next HRow.out (row := row) HR.out.1 HBm.out HNb.out (HR.out.2.1) HRg.out H7.out.1 H7.out.2.1 H7.out.2.2⟩
        case measure => simp [intOf]; omega
      · have hkk : k = n := by omega
        obtain ⟨bf2, cf2, rfl, hR2, hBw, hBs⟩ := RowL.done (by omega) hf6 (show RowL w8 f6 m _ n bs2 wo by have h := HRow.out; rw [hkk] at h; exact h)
        have hcf := hR2.cap
        have HR2 := Lib.hid (hR2.els (by omega) (fun b => b < wo.heap.size) (fun b hb => hR2.lt b hb))
        clear hR2 hBw hBs HRow HOw
        go_wp2_with fail
        clear hkk hkn hlt
        refine (rnulls_any ⟨(m : Int), (n : Int), gs, rs⟩ n A c S _ L rfl HN.out hlc hc (HA.out.belowB HBwo.out HS.out) (fun b hb => by have := HS.out b hb; have := HBwo.out.size; omega) HRl.out HRI.out HL.out).mono ?_
        rintro e w9 ⟨nb, rfl, hNb, hNge, hb9⟩
        obtain ⟨wa, hwa⟩ : ∃ wa : World, wa = w9.alloc (.cells #[.slice (some ⟨nb, 0, none⟩) n n] 37) := ⟨_, rfl⟩
        have hba : Below w9.heap.size w9 wa := by rw [hwa]; exact (Below.refl _ _).alloc (Nat.le_refl _) _
        have hb9a : Below wo.heap.size wo wa := bthen hb9 hba hb9.size
        have HX : Hid (Blk' wa w9.heap.size 37 #[.slice (some ⟨nb, 0, none⟩) n n]) := Lib.hid (by rw [hwa]; exact Blk'.new _ _ _)
        have HNa := Lib.hid (hNb.below hba hNb.lt)
        have HBa := Lib.hid (bthen HBwo.out hb9a HBwo.out.size)
        have H7a := Lib.hid (bthen (bthen H78.out HBo.out H78.out.size) hb9a (by have := H78.out.size; have := HBo.out.size; omega))
        have HGa := Lib.hid (HGo.out.below hb9a HGo.out.lt)
        have HEa := Lib.hid ((HE8.out.below HBo.out HE8.out.lt).below hb9a (HE8.out.below HBo.out HE8.out.lt).lt)
        have HEfa := Lib.hid ((HEf8.out.below HBo.out).below hb9a)
        have HR2a := Lib.hid (HR2.out.below hb9a)
        have x0 : wa.cell? ⟨w9.heap.size, 0, none⟩ = some (.slice (some ⟨nb, 0, none⟩) n n) := HX.out.cell 0
        have zX := HX.out.lt
        have HWa := Lib.hid hwa
        clear hNb hNge hb9 hwa hba hb9a u0 u1 u2 u3
        go_upto_region 17 with (fail)
        rw [← HWa.out]
        go_wp2_with fail
        refine (eq_trueB _ _ (nullB L) _ _ _ _ (fun b => b = b5) (fun b => b = nb) _ hnl.symm hnl.symm (by omega) (els_brow HEa.out rfl) (els_brow HNa.out rfl)).mono ?_
        rintro e wb ⟨rfl, hbb⟩
        have Hbb := Lib.hid hbb
        have x0b := (hbb.cell (p := ⟨w9.heap.size, 0, none⟩) zX).trans x0
        clear hbb x0
        go_wp2_with fail
        refine (rows_trueB _ _ f6 _ _ _ _ _ _ _ hf6.symm hf6.symm (by omega) (fun r hr => by obtain ⟨i, hi, rfl⟩ := List.getElem_of_mem hr; have := HSt6.out.shape.rows i _ (List.getElem?_eq_getElem hi); omega) (HEfa.out.below Hbb.out) (HR2a.out.below Hbb.out)).mono ?_
        rintro e wc ⟨rfl, hbc⟩
        have hbac : Below wa.heap.size wa wc := bthen Hbb.out hbc Hbb.out.size
        have HBc := Lib.hid (bthen HBa.out hbac HBa.out.size)
        have H7c := Lib.hid (bthen H7a.out hbac H7a.out.size)
        have HGc := Lib.hid (HGa.out.below hbac HGa.out.lt)
        have HXc := Lib.hid (HX.out.below hbac HX.out.lt)
        have HNc := Lib.hid (HNa.out.below hbac HNa.out.lt)
        clear hbc hbac x0b Hbb HEa HEfa HR2a HGa HX HNa
        go_wp2_with fail
        refine (contSym_any B d l S _ _ _ (fun x => !symIn (m : Int) (n : Int) x) hl9 (HBl.out.belowB HBc.out HS.out) (isGo_of Tryd.func25 (by kernel_rfl) (by kernel_rfl)) (fun x W hx hW => says1_any w.heap.size (m : Int) (n : Int) gs A rs.length c x W (HGc.out.below hW HGc.out.lt))).mono ?_
        rintro e wd ⟨rfl, hbd⟩
        have HBd := Lib.hid (bthen HBc.out hbd HBc.out.size)
        rcases HRet.out with ⟨hany, he, _⟩ | ⟨hany, b7, e7, f7, hst7, he, hb7ge, hB7, _⟩
        · obtain ⟨rfl, rfl, rfl⟩ : vc = .slice none 0 0 ∧ vi = false ∧ ve = 3 := by simpa using he
          dsimp only at hany
          rw [hany]
          clear hany he hbd
          go_wp2
          go_ret
          exact ⟨rfl, HBd.out⟩
        · dsimp only at hany
          rw [hany]
          have HAny := Lib.hid hany
          have HIn : Hid (∀ s ∈ l, SymIn m ⟨(m : Int), (n : Int), gs, rs⟩ s) := Lib.hid (fun x hx => by
            rw [List.any_eq_false] at hany
            have h1 := hany x hx
            simp only [Bool.not_eq_true', Bool.not_eq_false] at h1
            exact symIn_iff.1 h1)
          obtain ⟨ho1, ho2⟩ := hst7.ofRow HV.out rfl rfl HL.out HIn.out
          obtain ⟨row7, hr7⟩ : ∃ row7, row7 = (ofFrom e7 f7 (List.replicate m false) l).1 := ⟨_, rfl⟩
          obtain ⟨em7, hem7⟩ : ∃ em7, em7 = emptyB (nullB L) l := ⟨_, rfl⟩
          rw [ho2, ← hem7] at he
          rw [← hr7] at ho1 hB7
          obtain ⟨rfl, rfl, rfl⟩ : vc = .slice (some ⟨b7, 0, none⟩) m m ∧ vi = em7 ∧ ve = 0 := by simpa [rowSl] using he
          have HO7 := Lib.hid ho1
          have HEm := Lib.hid hem7
          have hdd : Below w7.heap.size w7 wd := bthen H7c.out hbd H7c.out.size
          have HB7d := Lib.hid (hB7.below hdd hB7.lt)
          have hb7d : b7 < wd.heap.size := HB7d.out.lt
          have HGd := Lib.hid (HGc.out.below hbd HGc.out.lt)
          have HXd := Lib.hid (HXc.out.below hbd HXc.out.lt)
          have HNd := Lib.hid (HNc.out.below hbd HNc.out.lt)
          clear hany he ho1 ho2 hr7 hem7 hb7ge hB7 hst7 hbd hdd
          go_wp2_with fail
          refine (contSym_any B d l S _ _ _ (fun s => s.term || !((nullB L).getD s.n.toNat false)) hl9 (HBl.out.belowB HBd.out HS.out) (isGo_of Tryd.func27 (by kernel_rfl) (by kernel_rfl)) (fun x W hx hW => says2_any w9.heap.size nb n (nullB L) x W (HXd.out.below hW HXd.out.lt) (HNd.out.below hW HNd.out.lt) hnl (by have h := HIn.out x hx; refine ⟨h.1, fun ht => ?_⟩; have h2 := h.2; rw [ht] at h2; simp at h2; have := h.1; omega))).mono ?_
          rintro e we ⟨rfl, hbe⟩
          have hq : (l.any fun s => s.term || !((nullB L).getD s.n.toNat false)) = !vi := by rw [HEm.out]; unfold emptyB; rw [Bool.not_not]
          rw [hq]
          have HBe := Lib.hid (bthen HBd.out hbe HBd.out.size)
          have hGe := HGd.out.below hbe HGd.out.lt
          have HB7e := Lib.hid (HB7d.out.below hbe HB7d.out.lt)
          have y0 : we.cell? ⟨w.heap.size, 0, none⟩ = some (.int .i64 (m : Int)) := hGe.cell 0
          have y1 : we.cell? ⟨w.heap.size, 1, none⟩ = some (.int .i64 (n : Int)) := hGe.cell 1
          have y2 : we.cell? ⟨w.heap.size, 2, none⟩ = some (.int .i64 gs) := hGe.cell 2
          have y3 : we.cell? ⟨w.heap.size, 3, none⟩ = some (.slice A rs.length c) := hGe.cell 3
          have zGe := hGe.lt
          have heq : (vi == vi) = true := by simp
          clear hbe hGe hq
          cases vi
          all_goals
            go_wp2_with fail
            refine (rfirstOf_any ⟨(m : Int), (n : Int), gs, rs⟩ m n A c S _ L l B d l.length S rfl rfl HC.out hlc hc (HA.out.belowB HBe.out HS.out) (fun b hb => by have := HS.out b hb; have := HBe.out.size; omega) HL.out rfl hl9 HIn.out hld hd (HBl.out.belowB HBe.out HS.out) (fun b hb => by have := HS.out b hb; have := HBe.out.size; omega)).mono ?_
            rintro e wf ⟨R, row, rfl, hrow, hRb, hRge, hbf⟩
            obtain rfl : row = row7 := hrow.same HO7.out
            have HRb := Lib.hid hRb
            have HB7f := Lib.hid (HB7e.out.below hbf HB7e.out.lt)
            have HBf := Lib.hid (bthen HBe.out hbf HBe.out.size)
            have hrl7 : row.length = m := HO7.out.1
            clear hrow hRb hRge hbf y0 y1 y2 y3
            go_wp2_with fail
            refine (eq_trueB _ _ row _ _ _ _ (fun b => b = b7) (fun b => b = R) _ hrl7.symm hrl7.symm (by omega) (els_brow HB7f.out rfl) (els_brow HRb.out rfl)).mono ?_
            rintro e wg ⟨rfl, hbg⟩
            have HBg := Lib.hid (bthen HBf.out hbg HBf.out.size)
            clear hbg
            go_wp2
            go_ret
            exact ⟨rfl, HBg.out⟩
  · obtain ⟨ce, hE⟩ : ∃ ce, checkI ⟨gt, gn, gs, rs⟩ = ce := ⟨_, rfl⟩
    have HE := Lib.hid hE
    have HCe := Lib.hid hce
    rw [hE] at hce
    have hne : (ce != 0) = true := by simpa using hce
    have hself : (ce == ce) = true := by simp
    clear hE
    go_wp2_with fail
    refine (null_bad ⟨gt, gn, gs, rs⟩ A c S _ HCe.out hlc hc (HA.out.belowB HB4.out HS.out)).mono ?_
    rintro e w5 ⟨rfl, hb5⟩
    rw [HE.out]
    have HB5 := Lib.hid (bthen HB4.out hb5 HB4.out.size)
    have hG5 := HG4.out.below hb5 HG4.out.lt
    have HG5 := Lib.hid hG5
    have k0 : w5.cell? ⟨w.heap.size, 0, none⟩ = some (.int .i64 gt) := hG5.cell 0
    have k1 : w5.cell? ⟨w.heap.size, 1, none⟩ = some (.int .i64 gn) := hG5.cell 1
    have k2 : w5.cell? ⟨w.heap.size, 2, none⟩ = some (.int .i64 gs) := hG5.cell 2
    have k3 : w5.cell? ⟨w.heap.size, 3, none⟩ = some (.slice A rs.length c) := hG5.cell 3
    have zG5 := hG5.lt
    clear g0 g1 g2 g3 hb5 hG5
    go_wp2_with fail
    refine (first_bad ⟨gt, gn, gs, rs⟩ A c S _ HCe.out hlc hc (HA.out.belowB HB5.out HS.out)).mono ?_
    rintro e w6 ⟨rfl, hb6⟩
    rw [HE.out]
    have HB6 := Lib.hid (bthen HB5.out hb6 HB5.out.size)
    have hG6 := HG5.out.below hb6 HG5.out.lt
    have HG6 := Lib.hid hG6
    have p0 : w6.cell? ⟨w.heap.size, 0, none⟩ = some (.int .i64 gt) := hG6.cell 0
    have p1 : w6.cell? ⟨w.heap.size, 1, none⟩ = some (.int .i64 gn) := hG6.cell 1
    have p2 : w6.cell? ⟨w.heap.size, 2, none⟩ = some (.int .i64 gs) := hG6.cell 2
    have p3 : w6.cell? ⟨w.heap.size, 3, none⟩ = some (.slice A rs.length c) := hG6.cell 3
    have zG6 := hG6.lt
    clear k0 k1 k2 k3 hb6 hG6
    go_wp2_with fail
    refine (of_badG ⟨gt, gn, gs, rs⟩ A c S _ B l.length d HCe.out hlc hc (HA.out.belowB HB6.out HS.out)).mono ?_
    rintro e w7 ⟨rfl, hb7⟩
    rw [HE.out]
    have HB7 := Lib.hid (bthen HB6.out hb7 HB6.out.size)
    have hG7 := HG6.out.below hb7 HG6.out.lt
    have q0 : w7.cell? ⟨w.heap.size, 0, none⟩ = some (.int .i64 gt) := hG7.cell 0
    have q1 : w7.cell? ⟨w.heap.size, 1, none⟩ = some (.int .i64 gn) := hG7.cell 1
    have q2 : w7.cell? ⟨w.heap.size, 2, none⟩ = some (.int .i64 gs) := hG7.cell 2
    have q3 : w7.cell? ⟨w.heap.size, 3, none⟩ = some (.slice A rs.length c) := hG7.cell 3
    have zG7 := hG7.lt
    clear p0 p1 p2 p3 hb7 hG7
    go_wp2_with fail
    refine (gramErr_any ⟨gt, gn, gs, rs⟩ A c S _ H64.out hlc hc (HA.out.belowB HB7.out HS.out) (fun b hb => by have := HS.out b hb; have := HB7.out.size; omega)).mono ?_
    rintro e w8 ⟨rfl, hb8⟩
    rw [HE.out]
    have HB8 := Lib.hid (bthen HB7.out hb8 HB7.out.size)
    clear hb8 q0 q1 q2 q3
    go_wp2
    go_ret
    exact ⟨rfl, HB8.out⟩

theorem firstSays_row (g : Gram) (l : List Sym) (v0 v1 : Value) (W : World) (h0 : Vl W (OldS W) g v0) (h1 : Vl W (OldS W) l v1) :
    Calls Tryd.prog 4 #[v0, v1] W fun e W' => e = .returned (.bool true) ∧ Below W.heap.size W W' := by
  obtain ⟨s, rfl, k1, k2, k3, hs⟩ := h0.gram
  obtain ⟨A, c, rfl, hlc, hc, hA⟩ := hs.slice
  obtain ⟨B, d, rfl, hld, hd, hB⟩ := h1.slice
  exact firstSays_any g l A B c d (OldS W) W ⟨k1, k2, k3⟩ hlc hc hA (fun b h => h) hld hd hB
end Go.Proofs.YtbboceklkjfimaaDoor
