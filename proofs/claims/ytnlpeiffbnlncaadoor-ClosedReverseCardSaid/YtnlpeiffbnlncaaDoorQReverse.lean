/- Contract: closed.Reverse. -/
import Derived.Test.YtnlpeiffbnlncaaDoorQp2
import Derived.Test.YtnlpeiffbnlncaaDoorQw2
import Derived.Test.YtnlpeiffbnlncaaDoorQCopyB
import Derived.Test.YtnlpeiffbnlncaaDoorQClosedE
namespace Go.Proofs.YtnlpeiffbnlncaaDoor
open Go.RowKit
set_option linter.unusedVariables false

def RvO (R : List Rule) (v : Value) (lo hi : Nat) (w4 : World) (i : Value) (wr : World) : Prop :=
  ∃ (t : Nat) (ys : List RuleB), t ≤ R.length ∧ i = .int .i64 t ∧ ys.map RuleB.rule = revU R t ∧ (∀ y ∈ ys, y.blk < hi) ∧ Frs wr lo ys ∧ Own wr (fun _ => False) lo 57 v ys ∧ Kept (fun b => lo ≤ b ∧ b < hi) w4 wr

set_option maxRecDepth 100000 in
set_option maxHeartbeats 4000000 in
theorem reverse_any (g : Gram) (A : Option Addr) (c : Nat) (S : Nat → Prop) (w : World) (hck : checkI g = 0) (hlc : g.rules.length ≤ c) (hc : c ≤ 9223372036854775807) (hA : Els w S g.rules A) (hS : ∀ b, S b → b < w.heap.size) :
    Calls Tryd.prog 20 #[.agg #[.int .i64 g.terms, .int .i64 g.nons, .int .i64 g.start, .slice A g.rules.length c]] w fun e w' => ∃ A' c', e = .returned (.tuple #[.agg #[.int .i64 g.terms, .int .i64 g.nons, .int .i64 g.start, .slice A' g.rules.length c'], .int .i64 0]) ∧ g.rules.length ≤ c' ∧ c' ≤ 9223372036854775807 ∧ Els w' (fun b => w.heap.size ≤ b ∧ b < w'.heap.size) (g.rules.map revR) A' ∧ Below w.heap.size w w' := by
  have hv := validG_of hck
  have hb64 : I64 g.terms ∧ I64 g.nons ∧ I64 g.start := by
    have h1 := hv.t1; have h2 := hv.t8; have h3 := hv.n1; have h4 := hv.n10; have h5 := hv.s0; have h6 := hv.s1
    unfold I64; omega
  have hrl : g.rules.length ≤ 32 := hv.len
  have hrr : ∀ q ∈ g.rules, q.right.length ≤ 4 := fun q hq => (hv.rules q hq).2.2.1
  have HCk := Lib.hid hck
  have H64 := Lib.hid hb64
  have HRr := Lib.hid hrr
  obtain ⟨gt, gn, gs, rs⟩ := g
  dsimp only at hrl HRr hlc hA ⊢
  obtain ⟨w1, hw1⟩ : ∃ w1 : World, w1 = (w.alloc (.cells #[.int .i64 gt, .int .i64 gn, .int .i64 gs, .slice A rs.length c] 25)).alloc (.cells #[.int .i64 0, .int .i64 0, .int .i64 0, .slice none 0 0] 25) := ⟨_, rfl⟩
  have HW1 := Lib.hid hw1
  have hb1 : Below w.heap.size w w1 := by rw [hw1]; exact ((Below.refl _ _).alloc (Nat.le_refl _) _).alloc (by simp) _
  have HG1 : Hid (Blk' w1 w.heap.size 25 #[.int .i64 gt, .int .i64 gn, .int .i64 gs, .slice A rs.length c]) := Lib.hid (by rw [hw1]; exact (Blk'.new w _ _).alloc _)
  have HR1 : Hid (Blk' w1 (w.heap.size + 1) 25 #[.int .i64 0, .int .i64 0, .int .i64 0, .slice none 0 0]) := Lib.hid (by rw [hw1]; exact Blk'.new' _ _ _ (by simp))
  have HB1 := Lib.hid hb1
  have HA1 := Lib.hid (hA.belowB hb1 hS)
  have HS := Lib.hid hS
  have a0 : w1.cell? ⟨w.heap.size, 0, none⟩ = some (.int .i64 gt) := HG1.out.cell 0
  have a1 : w1.cell? ⟨w.heap.size, 1, none⟩ = some (.int .i64 gn) := HG1.out.cell 1
  have a2 : w1.cell? ⟨w.heap.size, 2, none⟩ = some (.int .i64 gs) := HG1.out.cell 2
  have a3 : w1.cell? ⟨w.heap.size, 3, none⟩ = some (.slice A rs.length c) := HG1.out.cell 3
  have zG : w.heap.size < w1.heap.size := HG1.out.lt
  have HE1 := Lib.hid (els_gram1 (g := ⟨gt, gn, gs, rs⟩) 25 HA1.out hlc hc H64.out)
  have hba : Below w1.heap.size w1 (w1.alloc (.cells #[.int .i64 gt, .int .i64 gn, .int .i64 gs, .slice A rs.length c] 25)) := (Below.refl _ _).alloc (Nat.le_refl _) _
  have HBa := Lib.hid hba
  clear hw1 hb1 hA hck hv hb64 hS hba hrr
  go_enter Tryd.func20, Tryd.ntmps20
  go_upto_region 1 with (fail)
  rw [← HW1.out]
  go_wp2_with fail
  refine (ccheck_any [⟨gt, gn, gs, rs⟩] (some ⟨w1.heap.size, 0, none⟩) 1 (fun b => S b ∨ b = w1.heap.size) _ (by simp) (fun g hg => by simp at hg; subst hg; exact HCk.out) HE1.out (fun b hb => by rcases hb with hb | hb; (have := HS.out b hb; have := HB1.out.size; simp; omega); (subst hb; simp))).mono ?_
  rintro e w2 ⟨rfl, hb2⟩
  have HB12 := Lib.hid (bthen HBa.out hb2 HBa.out.size)
  have HB2 := Lib.hid (bthen HB1.out HB12.out HB1.out.size)
  have HG2 := Lib.hid (HG1.out.below HB12.out HG1.out.lt)
  have HR2 := Lib.hid (HR1.out.below HB12.out HR1.out.lt)
  have HA2 := Lib.hid (HA1.out.belowB HB12.out (fun b hb => by have := HS.out b hb; have := HB1.out.size; omega))
  have b0 : w2.cell? ⟨w.heap.size, 0, none⟩ = some (.int .i64 gt) := HG2.out.cell 0
  have b1 : w2.cell? ⟨w.heap.size, 1, none⟩ = some (.int .i64 gn) := HG2.out.cell 1
  have b2 : w2.cell? ⟨w.heap.size, 2, none⟩ = some (.int .i64 gs) := HG2.out.cell 2
  have b3 : w2.cell? ⟨w.heap.size, 3, none⟩ = some (.slice A rs.length c) := HG2.out.cell 3
  have zG2 : w.heap.size < w2.heap.size := HG2.out.lt
  have z2 : w.heap.size + 1 < w2.heap.size := HR2.out.lt
  clear a0 a1 a2 a3 hb2
  go_wp2_with fail
  refine (copyB_any gt gn gs rs A c S _ (by omega) (fun q hq => by have := HRr.out q hq; omega) hlc hc HA2.out (fun b hb => by have := HS.out b hb; have := HB2.out.size; omega)).mono ?_
  rintro e w3 ⟨v3, J, rfl, hJ, hfr3, hown3, hb3⟩
  obtain ⟨A3, c3, rfl, hc31, hc32, _⟩ := hown3.form
  have hJl : J.length = rs.length := by rw [← hJ, List.length_map]
  rw [hJl] at hown3 hc31 ⊢
  have HB23 := Lib.hid hb3
  have HB3 := Lib.hid (bthen HB2.out hb3 HB2.out.size)
  have HR3 := Lib.hid (HR2.out.below hb3 HR2.out.lt)
  have HO3 := Lib.hid hown3
  have HF3 := Lib.hid hfr3
  have HJ := Lib.hid hJ
  have HJl := Lib.hid hJl
  obtain ⟨w4, hw4⟩ : ∃ w4 : World, w4 = w3.alloc (.cells #[.int .i64 gt, .int .i64 gn, .int .i64 gs, .slice A3 rs.length c3] 25) := ⟨_, rfl⟩
  have HW4 := Lib.hid hw4
  have hb4 : Below w3.heap.size w3 w4 := by rw [hw4]; exact (Below.refl _ _).alloc (Nat.le_refl _) _
  have HB4 := Lib.hid hb4
  have HX4 : Hid (Blk' w4 w3.heap.size 25 #[.int .i64 gt, .int .i64 gn, .int .i64 gs, .slice A3 rs.length c3]) := Lib.hid (by rw [hw4]; exact Blk'.new _ _ _)
  have HO4 := Lib.hid (hown3.below hb4 (Nat.le_refl _))
  have HF4 := Lib.hid (HF3.out.below hb4)
  have HR4 := Lib.hid (HR3.out.below hb4 HR3.out.lt)
  have HBw4 := Lib.hid (bthen HB3.out hb4 HB3.out.size)
  have x3 : w4.cell? ⟨w3.heap.size, 3, none⟩ = some (.slice A3 rs.length c3) := HX4.out.cell 3
  have zX : w3.heap.size < w4.heap.size := HX4.out.lt
  have z23 : w2.heap.size ≤ w3.heap.size := HB23.out.size
  have HC3 := Lib.hid (And.intro hc31 hc32)
  clear b0 b1 b2 b3 hb3 hw4 hb4 hown3 hJ hJl hfr3 hc31 hc32
  go_upto_region 5 with (fail)
  rw [← HW4.out]
  go_wp2_with fail
  clear x3
  go_loopw [20] (fun i wr => RvO rs (.slice A3 rs.length c3) w2.heap.size w3.heap.size w4 i wr) (fun i _ => rs.length - (intOf i).toNat)
  case atStart => exact ⟨0, J, Nat.zero_le _, rfl, by rw [revU_zero]; exact HJ.out, fun y hy => (HF3.out.cells y hy).2.1, HF4.out, HO4.out, Kept.refl _ _⟩
  case round =>
    obtain ⟨wo, hwo⟩ : ∃ wo : World, wo = wr := ⟨_, rfl⟩
    subst hwo
    obtain ⟨t, ys, ht, rfl, hys, hhi, hfr, hown, hk⟩ := hrel
    have HYs := Lib.hid hys
    have HHi := Lib.hid hhi
    have HFo := Lib.hid hfr
    have HOo := Lib.hid hown
    have HKo := Lib.hid hk
    have zo4 : w4.heap.size ≤ wo.heap.size := hk.size
    clear hys hhi hfr hown hk
    by_cases hlt : t < rs.length
    · obtain ⟨r, hr⟩ := get_some (xs := rs) (k := t) hlt
      obtain ⟨kt, hyt⟩ := map_at HYs.out (revU_at hr)
      obtain ⟨g0, cap0, A5, c5, hv5, hg01, hg02, hI5, hl5, hc5, hE5, d0, d1⟩ := HOo.out.ruleB hyt
      injection hv5 with hv5 hv6 hv7
      subst hv5
      have hrl4 : r.right.length ≤ 4 := HRr.out r (List.mem_of_getElem? hr)
      have HRt := Lib.hid hr
      have HYt := Lib.hid hyt
      obtain ⟨rl, rr⟩ := r
      dsimp only at hI5 hl5 hc5 hE5 d0 d1 hrl4
      have ht0 : (0 : Int) ≤ (t : Int) := by omega
      have htl : (t : Int) < (rs.length : Int) := by omega
      have hwt : IntKind.i64.wrap ((t : Int) + 1) = (t : Int) + 1 := IntWalk.i64_in _ (by omega)
      obtain ⟨wb, hwb⟩ : ∃ wb : World, wb = wo.alloc (.cells #[.int .i64 rl, .slice A5 rr.length c5] 57) := ⟨_, rfl⟩
      have HWb := Lib.hid hwb
      have hbb : Below wo.heap.size wo wb := by rw [hwb]; exact (Below.refl _ _).alloc (Nat.le_refl _) _
      have HBb : Hid (Blk' wb wo.heap.size 57 #[.int .i64 rl, .slice A5 rr.length c5]) := Lib.hid (by rw [hwb]; exact Blk'.new _ _ _)
      have HFb := Lib.hid (HFo.out.below hbb)
      have HOb := Lib.hid (HOo.out.below hbb (Nat.le_refl _))
      have HKb := Lib.hid (HKo.out.below hbb)
      have HCb : Hid (wb.cell? ⟨g0, t * 2 + 1, none⟩ = some (.slice A5 rr.length c5)) := Lib.hid ((hbb.cell (p := ⟨g0, t * 2 + 1, none⟩) hg02).trans d1)
      have HEb := Lib.hid (hE5.below hbb)
      have e1 : wb.cell? ⟨wo.heap.size, 1, none⟩ = some (.slice A5 rr.length c5) := HBb.out.cell 1
      have zb : wo.heap.size < wb.heap.size := HBb.out.lt
      clear hyt hv6 hv7 hI5 hE5 hwb hbb hr
      go_upto_region 8 with (fail)
      rw [← HWb.out]
      clear d0 d1
      go_wp2_with fail
      by_cases hne : rr = []
      · have HNx : Hid (revU rs (t + 1) = revU rs t) := Lib.hid (revU_skip HRt.out (by rw [hne]; rfl))
        subst hne
        refine (revNil_any A5 c5 wb).mono ?_
        rintro e w9 ⟨rfl, hb9⟩
        have H9 := Lib.hid (And.intro (HFb.out.below hb9) (And.intro (HOb.out.below hb9 (Nat.le_refl _)) (HKb.out.below hb9)))
        clear hb9
        go_wp2_with fail
        go_roundw
        case rel => exact ⟨t + 1, ys, hlt, by go_num, by rw [HYs.out, HNx.out], HHi.out, H9.out.1, H9.out.2.1, H9.out.2.2⟩
        case measure => simp [intOf]; omega
      · obtain ⟨bk, o, hA5, hbk, _⟩ := HEb.out hne
        have hbk' : bk = kt := hbk.1
        subst hbk'
        subst hA5
        have hkb := HFb.out.cells _ (List.mem_of_getElem? HYt.out)
        have hkb3 := HHi.out _ (List.mem_of_getElem? HYt.out)
        dsimp only at hkb hkb3
        obtain ⟨tb, cb, hBk⟩ := hkb.2.2 hne
        have HRow := Lib.hid (RowS.of HEb.out hBk)
        have HLo := Lib.hid (And.intro hkb.1 hkb3)
        have HNe := Lib.hid hne
        clear hkb hkb3 hBk hbk hne
        refine (revSym_any rr bk o c5 wb (by omega) HRow.out).mono ?_
        rintro e w9 ⟨rfl, hrow9, hk9⟩
        have H9 : Hid (Own w9 (fun _ => False) w2.heap.size 57 (.slice (some ⟨g0, 0, none⟩) rs.length c3) (ys.set t ⟨⟨rl, rr.reverse⟩, bk⟩) ∧ Frs w9 w2.heap.size (ys.set t ⟨⟨rl, rr.reverse⟩, bk⟩) ∧ Kept (fun b => w2.heap.size ≤ b ∧ b < w3.heap.size) w4 w9) := Lib.hid (by
          refine ⟨?_, ?_, ?_⟩
          · exact HOb.out.turnB (x := ⟨⟨rl, rr⟩, bk⟩) HYt.out (fun k y hy hne => HFb.out.apart k t y _ hy HYt.out hne) rfl HCb.out HNe.out (by simp) hk9 (hrow9.els rfl)
          · obtain ⟨t9, cur9, hb9, _⟩ := hrow9
            exact HFb.out.put (x := ⟨⟨rl, rr⟩, bk⟩) HYt.out rfl hk9 ⟨t9, cur9, hb9⟩
          · exact HKb.out.trans (hk9.mono (fun b _ (hb : b = bk) => by subst hb; exact HLo.out)))
        clear hrow9 hk9
        go_wp2_with fail
        go_roundw
        case rel => exact ⟨t + 1, ys.set t ⟨⟨rl, rr.reverse⟩, bk⟩, hlt, by go_num, by rw [map_set_rule, HYs.out]; exact revU_set HRt.out, set_blk HHi.out HYt.out rfl, H9.out.2.1, H9.out.1, H9.out.2.2⟩
        case measure => simp [intOf]; omega
    · have htt : t = rs.length := by omega
      have HFin : Hid (ys.map RuleB.rule = rs.map revR) := Lib.hid (by rw [HYs.out, htt, revU_all])
      have HXo := Lib.hid (HX4.out.kept HKo.out (fun h => by omega))
      have HRo := Lib.hid (HR4.out.kept HKo.out (fun h => by omega))
      have o0 : wo.cell? ⟨w3.heap.size, 0, none⟩ = some (.int .i64 gt) := HXo.out.cell 0
      have o1 : wo.cell? ⟨w3.heap.size, 1, none⟩ = some (.int .i64 gn) := HXo.out.cell 1
      have o2 : wo.cell? ⟨w3.heap.size, 2, none⟩ = some (.int .i64 gs) := HXo.out.cell 2
      have o3 : wo.cell? ⟨w3.heap.size, 3, none⟩ = some (.slice A3 rs.length c3) := HXo.out.cell 3
      have s0 : wo.cell? ⟨w.heap.size + 1, 0, none⟩ = some (.int .i64 0) := HRo.out.cell 0
      have s1 : wo.cell? ⟨w.heap.size + 1, 1, none⟩ = some (.int .i64 0) := HRo.out.cell 1
      have s2 : wo.cell? ⟨w.heap.size + 1, 2, none⟩ = some (.int .i64 0) := HRo.out.cell 2
      have s3 : wo.cell? ⟨w.heap.size + 1, 3, none⟩ = some (.slice none 0 0) := HRo.out.cell 3
      have r0 := HRo.out.frozen 0
      have r1 := HRo.out.frozen 1
      have r2 := HRo.out.frozen 2
      have r3 := HRo.out.frozen 3
      have zR : w.heap.size + 1 < wo.heap.size := HRo.out.lt
      have zXo : w3.heap.size < wo.heap.size := HXo.out.lt
      clear htt
      go_wp2_with fail
      generalize hwF : World.setCell _ _ _ = wF
      obtain ⟨hRF, kF⟩ := set4 HRo.out (.int .i64 gt) (.int .i64 gn) (.int .i64 gs) (.slice A3 rs.length c3)
      rw [hwF] at hRF kF
      have u0 : wF.cell? ⟨w.heap.size + 1, 0, none⟩ = some (.int .i64 gt) := hRF.cell 0
      have u1 : wF.cell? ⟨w.heap.size + 1, 1, none⟩ = some (.int .i64 gn) := hRF.cell 1
      have u2 : wF.cell? ⟨w.heap.size + 1, 2, none⟩ = some (.int .i64 gs) := hRF.cell 2
      have u3 : wF.cell? ⟨w.heap.size + 1, 3, none⟩ = some (.slice A3 rs.length c3) := hRF.cell 3
      clear hwF
      have hOF := HOo.out.rules.kept kF (fun b (hb : b = w.heap.size + 1) h => h.elim id (fun h => by omega))
      rw [HFin.out] at hOF
      have hEF := hOF.vl.els.2.2.2
      have hBF : Below w.heap.size w wF := (HBw4.out.trans (HKo.out.to_below (B := w.heap.size) (fun b hb => by have := HB2.out.size; omega) HBw4.out.size)).trans (kF.to_below (B := w.heap.size) (fun b (hb : b = w.heap.size + 1) => by omega) (by have := HBw4.out.size; omega))
      refine bodyPost_ret (v := .tuple #[.agg #[.int .i64 gt, .int .i64 gn, .int .i64 gs, .slice A3 rs.length c3], .int .i64 0]) (by simp [results, Tryd.results20, go_sem, u0, u1, u2, u3]) rfl ⟨A3, c3, rfl, HC3.out.1, HC3.out.2, hEF.keep (fun _ _ _ => rfl) (fun b hb => ⟨(by have h9 : w2.heap.size ≤ b := hb.1.elim (fun h => h.elim) id; have h8 := HB2.out.size; omega), hb.2⟩), hBF⟩

set_option maxRecDepth 100000 in
set_option maxHeartbeats 2000000 in
theorem reverseBad_any (g : Gram) (A : Option Addr) (c : Nat) (S : Nat → Prop) (w : World) (hck : ¬ checkI g = 0) (h64 : I64 g.terms ∧ I64 g.nons ∧ I64 g.start) (hlc : g.rules.length ≤ c) (hc : c ≤ 9223372036854775807) (hA : Els w S g.rules A) (hS : ∀ b, S b → b < w.heap.size) :
    Calls Tryd.prog 20 #[.agg #[.int .i64 g.terms, .int .i64 g.nons, .int .i64 g.start, .slice A g.rules.length c]] w (RetZ (checkI g) w) := by
  obtain ⟨gt, gn, gs, rs⟩ := g
  dsimp only at hlc hA ⊢
  have HCk := Lib.hid hck
  have H64 := Lib.hid h64
  obtain ⟨w1, hw1⟩ : ∃ w1 : World, w1 = (w.alloc (.cells #[.int .i64 gt, .int .i64 gn, .int .i64 gs, .slice A rs.length c] 25)).alloc (.cells #[.int .i64 0, .int .i64 0, .int .i64 0, .slice none 0 0] 25) := ⟨_, rfl⟩
  have HW1 := Lib.hid hw1
  have hb1 : Below w.heap.size w w1 := by rw [hw1]; exact ((Below.refl _ _).alloc (Nat.le_refl _) _).alloc (by simp) _
  have HG1 : Hid (Blk' w1 w.heap.size 25 #[.int .i64 gt, .int .i64 gn, .int .i64 gs, .slice A rs.length c]) := Lib.hid (by rw [hw1]; exact (Blk'.new w _ _).alloc _)
  have HR1 : Hid (Blk' w1 (w.heap.size + 1) 25 #[.int .i64 0, .int .i64 0, .int .i64 0, .slice none 0 0]) := Lib.hid (by rw [hw1]; exact Blk'.new' _ _ _ (by simp))
  have HB1 := Lib.hid hb1
  have HA1 := Lib.hid (hA.belowB hb1 hS)
  have HS := Lib.hid hS
  have a0 : w1.cell? ⟨w.heap.size, 0, none⟩ = some (.int .i64 gt) := HG1.out.cell 0
  have a1 : w1.cell? ⟨w.heap.size, 1, none⟩ = some (.int .i64 gn) := HG1.out.cell 1
  have a2 : w1.cell? ⟨w.heap.size, 2, none⟩ = some (.int .i64 gs) := HG1.out.cell 2
  have a3 : w1.cell? ⟨w.heap.size, 3, none⟩ = some (.slice A rs.length c) := HG1.out.cell 3
  have zG : w.heap.size < w1.heap.size := HG1.out.lt
  have HE1 := Lib.hid (els_gram1 (g := ⟨gt, gn, gs, rs⟩) 25 HA1.out hlc hc H64.out)
  have hba : Below w1.heap.size w1 (w1.alloc (.cells #[.int .i64 gt, .int .i64 gn, .int .i64 gs, .slice A rs.length c] 25)) := (Below.refl _ _).alloc (Nat.le_refl _) _
  have HBa := Lib.hid hba
  clear hw1 hb1 hA hS hba hck h64
  go_enter Tryd.func20, Tryd.ntmps20
  go_upto_region 1 with (fail)
  rw [← HW1.out]
  go_wp2_with fail
  refine (ccheckE_any [⟨gt, gn, gs, rs⟩] (some ⟨w1.heap.size, 0, none⟩) 1 (fun b => S b ∨ b = w1.heap.size) _ (by simp) HE1.out (fun b hb => by rcases hb with hb | hb; (have := HS.out b hb; have := HB1.out.size; simp; omega); (subst hb; simp))).mono ?_
  rintro e w2 ⟨rfl, hb2⟩
  obtain ⟨E, hE⟩ : ∃ E, E = checkI ⟨gt, gn, gs, rs⟩ := ⟨_, rfl⟩
  have HEq := Lib.hid hE
  have hE0 : ¬ E = 0 := by rw [hE]; exact HCk.out
  have hfe : firstE [(⟨gt, gn, gs, rs⟩ : Gram)] = E := by rw [hE]; unfold firstE; rw [if_pos HCk.out]
  rw [hfe, ← hE]
  have HB12 := Lib.hid (bthen HBa.out hb2 HBa.out.size)
  have HB2 := Lib.hid (bthen HB1.out HB12.out HB1.out.size)
  have HR2 := Lib.hid (HR1.out.below HB12.out HR1.out.lt)
  clear a0 a1 a2 a3 hb2 hE hfe
  have r0 := HR2.out.frozen 0
  have r1 := HR2.out.frozen 1
  have r2 := HR2.out.frozen 2
  have r3 := HR2.out.frozen 3
  have q0 : w2.cell? ⟨w.heap.size + 1, 0, none⟩ = some (.int .i64 0) := HR2.out.cell 0
  have q1 : w2.cell? ⟨w.heap.size + 1, 1, none⟩ = some (.int .i64 0) := HR2.out.cell 1
  have q2 : w2.cell? ⟨w.heap.size + 1, 2, none⟩ = some (.int .i64 0) := HR2.out.cell 2
  have q3 : w2.cell? ⟨w.heap.size + 1, 3, none⟩ = some (.slice none 0 0) := HR2.out.cell 3
  have zR : w.heap.size + 1 < w2.heap.size := HR2.out.lt
  go_wp2_with fail
  generalize hwF : World.setCell _ _ _ = wF
  obtain ⟨hRF, kF⟩ := set4 HR2.out (.int .i64 0) (.int .i64 0) (.int .i64 0) (.slice none 0 0)
  rw [hwF] at hRF kF
  have u0 : wF.cell? ⟨w.heap.size + 1, 0, none⟩ = some (.int .i64 0) := hRF.cell 0
  have u1 : wF.cell? ⟨w.heap.size + 1, 1, none⟩ = some (.int .i64 0) := hRF.cell 1
  have u2 : wF.cell? ⟨w.heap.size + 1, 2, none⟩ = some (.int .i64 0) := hRF.cell 2
  have u3 : wF.cell? ⟨w.heap.size + 1, 3, none⟩ = some (.slice none 0 0) := hRF.cell 3
  clear hwF
  exact bodyPost_ret (v := .tuple #[.agg #[.int .i64 0, .int .i64 0, .int .i64 0, .slice none 0 0], .int .i64 E]) (by simp [results, Tryd.results20, go_sem, u0, u1, u2, u3]) rfl ⟨by rw [HEq.out], HB2.out.trans (kF.to_below (B := w.heap.size) (fun b (hb : b = w.heap.size + 1) => by omega) HB2.out.size)⟩
end Go.Proofs.YtnlpeiffbnlncaaDoor
