/- Contract: closed.Put, its errors too. -/
import Derived.Test.YtaidadjekfcacaaDoorQJoinB
import Derived.Test.YtaidadjekfcacaaDoorQClosedE
import Derived.Test.YtaidadjekfcacaaDoorQp1
import Derived.Test.YtaidadjekfcacaaDoorQSymMk
namespace Go.Proofs.YtaidadjekfcacaaDoor
open Go.RowKit
set_option linter.unusedVariables false

def PtO (R : List Rule) (x m : Int) (n : Nat) (v : Value) (lo hi : Nat) (w4 : World) (i : Value) (wr : World) : Prop :=
  ∃ (t : Nat) (ys : List RuleB), t ≤ n ∧ i = .int .i64 t ∧ ys.map RuleB.rule = putU R x m t ∧ (∀ y ∈ ys, y.blk < hi) ∧ Frs wr lo ys ∧ Own wr (fun _ => False) lo 61 v ys ∧ Kept (fun b => lo ≤ b ∧ b < hi) w4 wr
def PtI (R : List Rule) (x m : Int) (t : Nat) (r : Rule) (g c : Nat) (A' : Option Addr) (rb : Nat) (v : Value) (lo hi : Nat) (w4 : World) (i : Value) (wr : World) : Prop :=
  ∃ (s : Nat) (ys : List RuleB), s ≤ r.right.length ∧ i = .int .i64 s ∧ ys.map RuleB.rule = putV R x m t s r ∧ (∀ y ∈ ys, y.blk < hi) ∧ Frs wr lo ys ∧ Own wr (fun _ => False) lo 61 v ys ∧
    Blk' wr rb 61 #[.int .i64 r.left, .slice A' r.right.length c] ∧ wr.cell? ⟨g, t * 2 + 1, none⟩ = some (.slice A' r.right.length c) ∧ Kept (fun b => lo ≤ b ∧ b < hi) w4 wr

set_option maxRecDepth 100000 in
set_option maxHeartbeats 8000000 in
theorem putOk_any (g h : Gram) (x : Int) (A B : Option Addr) (c d : Nat) (S : Nat → Prop) (w : World) (hck : checkI g = 0) (hckh : checkI h = 0) (hte : h.terms = g.terms) (hx : 0 ≤ x ∧ x < g.terms) (hn10 : g.nons + h.nons ≤ 10) (hlc : g.rules.length ≤ c) (hc : c ≤ 9223372036854775807) (hA : Els w S g.rules A) (hld : h.rules.length ≤ d) (hd : d ≤ 9223372036854775807) (hB : Els w S h.rules B) (hS : ∀ b, S b → b < w.heap.size) :
    Calls Tryd.prog 19 #[.agg #[.int .i64 g.terms, .int .i64 g.nons, .int .i64 g.start, .slice A g.rules.length c], .int .i64 x, .agg #[.int .i64 h.terms, .int .i64 h.nons, .int .i64 h.start, .slice B h.rules.length d]] w (RetMk (putG g x h) w) := by
  have hv := validG_of hck
  have hvh := validG_of hckh
  have hb64 : I64 g.terms ∧ I64 g.nons ∧ I64 g.start := by
    have h1 := hv.t1; have h2 := hv.t8; have h3 := hv.n1; have h4 := hv.n10; have h5 := hv.s0; have h6 := hv.s1
    unfold I64; omega
  have hb64h : I64 h.terms ∧ I64 h.nons ∧ I64 h.start := by
    have h1 := hvh.t1; have h2 := hvh.t8; have h3 := hvh.n1; have h4 := hvh.n10; have h5 := hvh.s0; have h6 := hvh.s1
    unfold I64; omega
  have hjr : putU (joinR 0 [g, h]) x (g.nons + h.start) g.rules.length = (putG g x h).rules := by
    have e : joinR 0 [g, h] = g.rules.map (shR 0) ++ h.rules.map (shR g.nons) := by simp [joinR]
    have el : (g.rules.map (shR 0)).length = g.rules.length := List.length_map _
    unfold putU putG
    rw [e, ← el, List.take_left, List.drop_left]
  have hs0 : 0 ≤ g.start ∧ g.start < g.nons := ⟨hv.s0, hv.s1⟩
  have hs1 : 0 ≤ h.start ∧ h.start < h.nons := ⟨hvh.s0, hvh.s1⟩
  have hn1 : 1 ≤ g.nons := hv.n1
  have hm1 : 1 ≤ h.nons := hvh.n1
  have hrl : g.rules.length ≤ 32 := hv.len
  have hrl2 : h.rules.length ≤ 32 := hvh.len
  have hsn : sumN [g, h] = g.nons + h.nons := by simp [sumN]
  obtain ⟨R, hR⟩ : ∃ R, R = (putG g x h).rules := ⟨_, rfl⟩
  have hcg : putG g x h = ⟨g.terms, g.nons + h.nons, g.start, R⟩ := by rw [hR]; rfl
  rw [hcg]
  rw [← hR] at hjr
  clear hR hcg
  obtain ⟨gt, gn, gs, rs⟩ := g
  obtain ⟨ht, hn, ks, rs2⟩ := h
  dsimp only at *
  have hte' := hte.symm
  clear hte
  subst hte'
  have hnn : 2 ≤ gn + hn := by omega
  generalize hN : gn + hn = N at *
  have hN10 : N ≤ 10 := hn10
  have hN1 : 2 ≤ N := hnn
  have hwr : IntKind.i64.wrap (gn + ks) = gn + ks := IntWalk.i64_in _ (by omega)
  have hI1 : Hid (I64 gs) := Lib.hid hb64.2.2
  have hI2 : Hid (I64 (gn + ks)) := Lib.hid (by unfold I64; omega)
  have hIN : Hid (I64 N) := Lib.hid (by unfold I64; omega)
  have hx0 : 0 ≤ x := hx.1
  have hx1 : x < gt := hx.2
  have hx2 : ¬ x < 0 := by omega
  have hx3 : ¬ gt ≤ x := by omega
  have HJ := Lib.hid hjr
  have HCk := Lib.hid hck
  have HVg := Lib.hid hv
  have HVh := Lib.hid hvh
  have HCh := Lib.hid hckh
  have H64 := Lib.hid hb64
  have H64h := Lib.hid hb64h
  have HSn := Lib.hid hsn
  obtain ⟨w1, hw1⟩ : ∃ w1 : World, w1 = ((w.alloc (.cells #[.int .i64 gt, .int .i64 gn, .int .i64 gs, .slice A rs.length c] 25)).alloc (.cells #[.int .i64 gt, .int .i64 hn, .int .i64 ks, .slice B rs2.length d] 25)).alloc (.cells #[.int .i64 0, .int .i64 0, .int .i64 0, .slice none 0 0] 25) := ⟨_, rfl⟩
  have HW1 := Lib.hid hw1
  have hb1 : Below w.heap.size w w1 := by rw [hw1]; exact (((Below.refl _ _).alloc (Nat.le_refl _) _).alloc (by simp) _).alloc (by simp; omega) _
  have HG1 : Hid (Blk' w1 w.heap.size 25 #[.int .i64 gt, .int .i64 gn, .int .i64 gs, .slice A rs.length c]) := Lib.hid (by rw [hw1]; exact ((Blk'.new w _ _).alloc _).alloc _)
  have HH1 : Hid (Blk' w1 (w.heap.size + 1) 25 #[.int .i64 gt, .int .i64 hn, .int .i64 ks, .slice B rs2.length d]) := Lib.hid (by rw [hw1]; exact (Blk'.new' (g := w.heap.size + 1) _ _ _ (by simp)).alloc _)
  have HR1 : Hid (Blk' w1 (w.heap.size + 1 + 1) 25 #[.int .i64 0, .int .i64 0, .int .i64 0, .slice none 0 0]) := Lib.hid (by rw [hw1]; exact Blk'.new' _ _ _ (by simp))
  have HB1 := Lib.hid hb1
  have HA1 := Lib.hid (hA.belowB hb1 hS)
  have HBB1 := Lib.hid (hB.belowB hb1 hS)
  have HS := Lib.hid hS
  have a0 : w1.cell? ⟨w.heap.size, 0, none⟩ = some (.int .i64 gt) := HG1.out.cell 0
  have a1 : w1.cell? ⟨w.heap.size, 1, none⟩ = some (.int .i64 gn) := HG1.out.cell 1
  have a2 : w1.cell? ⟨w.heap.size, 2, none⟩ = some (.int .i64 gs) := HG1.out.cell 2
  have a3 : w1.cell? ⟨w.heap.size, 3, none⟩ = some (.slice A rs.length c) := HG1.out.cell 3
  have h0 : w1.cell? ⟨w.heap.size + 1, 0, none⟩ = some (.int .i64 gt) := HH1.out.cell 0
  have h1 : w1.cell? ⟨w.heap.size + 1, 1, none⟩ = some (.int .i64 hn) := HH1.out.cell 1
  have h2 : w1.cell? ⟨w.heap.size + 1, 2, none⟩ = some (.int .i64 ks) := HH1.out.cell 2
  have h3 : w1.cell? ⟨w.heap.size + 1, 3, none⟩ = some (.slice B rs2.length d) := HH1.out.cell 3
  have zG : w.heap.size < w1.heap.size := HG1.out.lt
  have zH : w.heap.size + 1 < w1.heap.size := HH1.out.lt
  have HE1 := Lib.hid (els_gram2 (g := ⟨gt, gn, gs, rs⟩) (h := ⟨gt, hn, ks, rs2⟩) 25 HA1.out hlc hc H64.out HBB1.out hld hd H64h.out)
  have hba : Below w1.heap.size w1 (w1.alloc (.cells #[.int .i64 gt, .int .i64 gn, .int .i64 gs, .slice A rs.length c, .int .i64 gt, .int .i64 hn, .int .i64 ks, .slice B rs2.length d] 25)) := (Below.refl _ _).alloc (Nat.le_refl _) _
  have HBa := Lib.hid hba
  clear hw1 hb1 hA hB hck hckh hv hvh hb64 hb64h hjr hsn hS hba hN hn10
  go_enter Tryd.func19, Tryd.ntmps19
  go_upto_region 1 with (fail)
  rw [← HW1.out]
  go_wp2_with fail
  refine (ccheck_any [⟨gt, gn, gs, rs⟩, ⟨gt, hn, ks, rs2⟩] (some ⟨w1.heap.size, 0, none⟩) 2 (fun b => S b ∨ b = w1.heap.size) _ (by simp) (fun g hg => by simp at hg; rcases hg with rfl | rfl; exact HCk.out; exact HCh.out) HE1.out (fun b hb => by rcases hb with hb | hb; (have := HS.out b hb; have := HB1.out.size; simp; omega); (subst hb; simp))).mono ?_
  rintro e w2 ⟨rfl, hb2⟩
  have HB12 := Lib.hid (bthen HBa.out hb2 HBa.out.size)
  have HB2 := Lib.hid (bthen HB1.out HB12.out HB1.out.size)
  have HG2 := Lib.hid (HG1.out.below HB12.out HG1.out.lt)
  have HH2 := Lib.hid (HH1.out.below HB12.out HH1.out.lt)
  have HR2 := Lib.hid (HR1.out.below HB12.out HR1.out.lt)
  have HA2 := Lib.hid (HA1.out.belowB HB12.out (fun b hb => by have := HS.out b hb; have := HB1.out.size; omega))
  have HBB2 := Lib.hid (HBB1.out.belowB HB12.out (fun b hb => by have := HS.out b hb; have := HB1.out.size; omega))
  have b0 : w2.cell? ⟨w.heap.size, 0, none⟩ = some (.int .i64 gt) := HG2.out.cell 0
  have b1 : w2.cell? ⟨w.heap.size, 1, none⟩ = some (.int .i64 gn) := HG2.out.cell 1
  have b2 : w2.cell? ⟨w.heap.size, 2, none⟩ = some (.int .i64 gs) := HG2.out.cell 2
  have b3 : w2.cell? ⟨w.heap.size, 3, none⟩ = some (.slice A rs.length c) := HG2.out.cell 3
  have k0 : w2.cell? ⟨w.heap.size + 1, 0, none⟩ = some (.int .i64 gt) := HH2.out.cell 0
  have k1 : w2.cell? ⟨w.heap.size + 1, 1, none⟩ = some (.int .i64 hn) := HH2.out.cell 1
  have k2 : w2.cell? ⟨w.heap.size + 1, 2, none⟩ = some (.int .i64 ks) := HH2.out.cell 2
  have k3 : w2.cell? ⟨w.heap.size + 1, 3, none⟩ = some (.slice B rs2.length d) := HH2.out.cell 3
  have zG2 : w.heap.size < w2.heap.size := HG2.out.lt
  have zH2 : w.heap.size + 1 < w2.heap.size := HH2.out.lt
  have HE2 := Lib.hid (els_gram2 (g := ⟨gt, gn, gs, rs⟩) (h := ⟨gt, hn, ks, rs2⟩) 25 HA2.out hlc hc H64.out HBB2.out hld hd H64h.out)
  have hba2 : Below w2.heap.size w2 (w2.alloc (.cells #[.int .i64 gt, .int .i64 gn, .int .i64 gs, .slice A rs.length c, .int .i64 gt, .int .i64 hn, .int .i64 ks, .slice B rs2.length d] 25)) := (Below.refl _ _).alloc (Nat.le_refl _) _
  have HBa2 := Lib.hid hba2
  clear a0 a1 a2 a3 h0 h1 h2 h3 hb2 hba2
  go_wp2_with fail
  refine (joinB_any [⟨gt, gn, gs, rs⟩, ⟨gt, hn, ks, rs2⟩] 0 ⟨gt, gn, gs, rs⟩ (some ⟨w2.heap.size, 0, none⟩) 2 (fun b => S b ∨ b = w2.heap.size) _ (by simp) rfl (fun g hg => by simp at hg; rcases hg with rfl | rfl; exact HCk.out; exact HCh.out) (by omega) (by rw [HSn.out]; omega) HE2.out (fun b hb => by rcases hb with hb | hb; (have := HS.out b hb; have := HB2.out.size; simp; omega); (subst hb; simp))).mono ?_
  rintro e w3 ⟨v3, J, rfl, hJr, hfr3, hown3, hb3⟩
  rw [HSn.out]
  dsimp only
  obtain ⟨A3, c3, rfl, hc31, hc32, _⟩ := hown3.form
  rw [Int.add_zero]
  have HB23 := Lib.hid (bthen HBa2.out hb3 HBa2.out.size)
  have HB3 := Lib.hid (bthen HB2.out HB23.out HB2.out.size)
  have HG3 := Lib.hid (HG2.out.below HB23.out HG2.out.lt)
  have HH3 := Lib.hid (HH2.out.below HB23.out HH2.out.lt)
  have HR3 := Lib.hid (HR2.out.below HB23.out HR2.out.lt)
  obtain ⟨Q, hQ⟩ : ∃ Q, Q = joinR 0 [(⟨gt, gn, gs, rs⟩ : Gram), ⟨gt, hn, ks, rs2⟩] := ⟨_, rfl⟩
  have hQl : Q.length = rs.length + rs2.length := by rw [hQ]; simp [joinR]
  have HRl : Hid (∀ r ∈ Q, r.right.length ≤ 4) := Lib.hid (by
    intro r hr
    rw [hQ] at hr
    simp [joinR] at hr
    rcases hr with ⟨q, hq, rfl⟩ | ⟨q, hq, rfl⟩
    · have h1 := (HVg.out.rules q hq).2.2.1
      simp [shR]; exact h1
    · have h1 := (HVh.out.rules q hq).2.2.1
      simp [shR]; exact h1)
  rw [← hQ] at HJ hJr
  have hJl : J.length = rs.length + rs2.length := by rw [← hQl, ← hJr, List.length_map]
  have hown3' : Own w3 (fun _ => False) w2.heap.size 61 (.slice A3 J.length c3) J := hown3.base (by simp)
  have HO3 := Lib.hid hown3'
  have HF3 := Lib.hid (hfr3.lo (lo' := w2.heap.size) (by simp))
  have HJr := Lib.hid hJr
  have HQl := Lib.hid hQl
  have HJl := Lib.hid hJl
  obtain ⟨w4, hw4⟩ : ∃ w4 : World, w4 = w3.alloc (.cells #[.int .i64 gt, .int .i64 N, .int .i64 gs, .slice A3 J.length c3] 25) := ⟨_, rfl⟩
  have HW4 := Lib.hid hw4
  have hb4 : Below w3.heap.size w3 w4 := by rw [hw4]; exact (Below.refl _ _).alloc (Nat.le_refl _) _
  have HB4 := Lib.hid hb4
  have HX4 : Hid (Blk' w4 w3.heap.size 25 #[.int .i64 gt, .int .i64 N, .int .i64 gs, .slice A3 J.length c3]) := Lib.hid (by rw [hw4]; exact Blk'.new _ _ _)
  have HO4 := Lib.hid (hown3'.below hb4 (Nat.le_refl _))
  have HF4 := Lib.hid (HF3.out.below hb4)
  have HR4 := Lib.hid (HR3.out.below hb4 HR3.out.lt)
  have HG4 := Lib.hid (HG3.out.below hb4 HG3.out.lt)
  have HH4 := Lib.hid (HH3.out.below hb4 HH3.out.lt)
  have x3 : w4.cell? ⟨w3.heap.size, 3, none⟩ = some (.slice A3 J.length c3) := HX4.out.cell 3
  have g3 : w4.cell? ⟨w.heap.size, 3, none⟩ = some (.slice A rs.length c) := HG4.out.cell 3
  have zX : w3.heap.size < w4.heap.size := HX4.out.lt
  have zG4 : w.heap.size < w4.heap.size := HG4.out.lt
  have zH4 : w.heap.size + 1 < w4.heap.size := HH4.out.lt
  have z23 : w2.heap.size ≤ w3.heap.size := HB23.out.size
  have z2 : w.heap.size + 1 + 1 < w2.heap.size := HR2.out.lt
  have hrs3 : (rs.length : Int) ≤ (c3 : Int) := by omega
  have hrs0 : (0 : Int) ≤ (rs.length : Int) := by omega
  have hrs9 : rs.length ≤ 9223372036854775807 := by omega
  clear k0 k1 k2 k3 hb3 hw4 hb4 hown3 hown3' hJr hQ hQl hJl hfr3 hc31
  have g2 : w3.cell? ⟨w.heap.size, 2, none⟩ = some (.int .i64 gs) := HG3.out.cell 2
  have zG3 : w.heap.size < w3.heap.size := HG3.out.lt
  go_upto_region 10 with (fail)
  rw [← HW4.out]
  clear b0 b1 b2 b3 g2
  go_wp2_with fail
  clear x3 g3
  go_loopw [60] (fun i wr => PtO Q x (gn + ks) rs.length (.slice A3 J.length c3) w2.heap.size w3.heap.size w4 i wr) (fun i _ => rs.length - (intOf i).toNat)
  case atStart => exact ⟨0, J, Nat.zero_le _, rfl, by rw [putU_zero]; exact HJr.out, fun y hy => (HF3.out.cells y hy).2.1, HF4.out, HO4.out, Kept.refl _ _⟩
  case round =>
    obtain ⟨wo, hwo⟩ : ∃ wo : World, wo = wr := ⟨_, rfl⟩
    subst hwo
    obtain ⟨t, ys, ht, rfl, hys, hhi, hfr, hown, hk⟩ := hrel
    have HYs := Lib.hid hys
    have HHi := Lib.hid hhi
    have HFo := Lib.hid hfr
    have HOo := Lib.hid hown
    have HKo := Lib.hid hk
    have zo4 : w4.heap.size ≤ wo.heap.size := hk.size
    clear hys hhi hfr hown hk
    by_cases hlt : t < rs.length
    · obtain ⟨r, hr⟩ := get_some (xs := Q) (k := t) (by rw [HQl.out]; omega)
      obtain ⟨kt, hyt⟩ := map_at HYs.out (putU_at hr)
      obtain ⟨g0, cap0, A5, c5, hv5, hg01, hg02, hI5, hl5, hc5, hE5, d0, d1⟩ := HOo.out.ruleB hyt
      injection hv5 with hv5 hv6 hv7
      subst hv5
      have HRt := Lib.hid hr
      have hrl : r.right.length ≤ 4 := HRl.out r (List.mem_of_getElem? hr)
      obtain ⟨rl, rr⟩ := r
      dsimp only at hI5 hl5 hc5 hE5 d0 d1 hrl
      have ht0 : (0 : Int) ≤ (t : Int) := by omega
      have htl : (t : Int) < (rs.length : Int) := by omega
      have hg03 : g0 < w3.heap.size := by
        have h1 := (HO3.out.block g0 rfl).2
        exact h1
      have hrr9 : rr.length ≤ 9223372036854775807 := by omega
      obtain ⟨wb, hwb⟩ : ∃ wb : World, wb = wo.alloc (.cells #[.int .i64 rl, .slice A5 rr.length c5] 61) := ⟨_, rfl⟩
      have HWb := Lib.hid hwb
      have hbb : Below wo.heap.size wo wb := by rw [hwb]; exact (Below.refl _ _).alloc (Nat.le_refl _) _
      have HBb : Hid (Blk' wb wo.heap.size 61 #[.int .i64 rl, .slice A5 rr.length c5]) := Lib.hid (by rw [hwb]; exact Blk'.new _ _ _)
      have HFb := Lib.hid (HFo.out.below hbb)
      have HOb := Lib.hid (HOo.out.below hbb (Nat.le_refl _))
      have HKb := Lib.hid (HKo.out.below hbb)
      have HCb : Hid (wb.cell? ⟨g0, t * 2 + 1, none⟩ = some (.slice A5 rr.length c5)) := Lib.hid ((hbb.cell (p := ⟨g0, t * 2 + 1, none⟩) hg02).trans d1)
      have e1 : wb.cell? ⟨wo.heap.size, 1, none⟩ = some (.slice A5 rr.length c5) := HBb.out.cell 1
      have zb : wo.heap.size < wb.heap.size := HBb.out.lt
      clear hyt hv6 hv7 hI5 hE5 hwb hbb hr
      go_upto_region 13 with (fail)
      rw [← HWb.out]
      clear d0 d1
      go_wp2_with fail
      clear e1
      go_loopw [67] (fun i wr => PtI Q x (gn + ks) t ⟨rl, rr⟩ g0 c5 A5 wo.heap.size (.slice (some ⟨g0, 0, none⟩) J.length c3) w2.heap.size w3.heap.size w4 i wr) (fun i _ => rr.length - (intOf i).toNat)
      case atStart => exact ⟨0, ys, Nat.zero_le _, rfl, by rw [putV_zero HRt.out]; exact HYs.out, HHi.out, HFb.out, HOb.out, HBb.out, HCb.out, HKb.out⟩
      case round =>
        obtain ⟨ws, hws⟩ : ∃ ws : World, ws = wr := ⟨_, rfl⟩
        subst hws
        obtain ⟨s, zs, hs, rfl, hzs, hhi, hfr, hown, hbr, hcr, hk⟩ := hrel
        dsimp only at hs hbr hcr
        have HZs := Lib.hid hzs
        have HHs := Lib.hid hhi
        have HFs := Lib.hid hfr
        have HOs := Lib.hid hown
        have HKs := Lib.hid hk
        have HBs := Lib.hid hbr
        have HCs := Lib.hid hcr
        have zs4 : w4.heap.size ≤ ws.heap.size := hk.size
        clear hzs hhi hfr hown hbr hcr hk
        by_cases hsl : s < rr.length
        · obtain ⟨z, hz⟩ := get_some hsl
          obtain ⟨kb, hyt⟩ := map_at HZs.out (putV_at HRt.out)
          dsimp only at hyt
          obtain ⟨g1, cap1, A6, c6, hv6, _, hg12, _, hl6, _, hE6, _, d1⟩ := HOs.out.ruleB hyt
          injection hv6 with hv6 hv7 hv8
          injection hv6 with hv6
          injection hv6 with hv6 hv9 hv10
          clear hv7 hv8 hv9 hv10
          subst hv6
          dsimp only at hl6 hE6 d1
          rw [HCs.out] at d1
          injection d1 with d1
          injection d1 with d1 hd2 hd3
          clear hd2 hd3
          subst d1
          obtain ⟨b1, o, rfl, ⟨hb1, hT1⟩, hb1s, hIz, s0, s1⟩ := hE6.sym (midS_at hz)
          subst hb1
          have HZ := Lib.hid hz
          have HYt := Lib.hid hyt
          have hkb := HFs.out.cells _ (List.mem_of_getElem? hyt)
          have hkb3 := HHs.out _ (List.mem_of_getElem? hyt)
          dsimp only at hkb hkb3
          obtain ⟨tb, cb, hBk⟩ := hkb.2.2 (fun e => by have h1 := congrArg List.length e; rw [midS_len] at h1; simp at h1; rw [h1] at hsl; simp at hsl)
          have HBk := Lib.hid hBk
          have hkb2 : w2.heap.size ≤ b1 := hkb.1
          obtain ⟨st, sn⟩ := z
          dsimp only at s0 s1 hIz
          have hs0 : (0 : Int) ≤ (s : Int) := by omega
          have hsl' : (s : Int) < (rr.length : Int) := by omega
          obtain ⟨wn, hwn⟩ : ∃ wn : World, wn = ws.alloc (.cells #[.bool st, .int .i64 sn] 64) := ⟨_, rfl⟩
          have HWn := Lib.hid hwn
          have hbn : Below ws.heap.size ws wn := by rw [hwn]; exact (Below.refl _ _).alloc (Nat.le_refl _) _
          have HBn := Lib.hid hbn
          have hSn : Blk' wn ws.heap.size 64 #[.bool st, .int .i64 sn] := by rw [hwn]; exact Blk'.new _ _ _
          have y0 : wn.cell? ⟨ws.heap.size, 0, none⟩ = some (.bool st) := hSn.cell 0
          have y1 : wn.cell? ⟨ws.heap.size, 1, none⟩ = some (.int .i64 sn) := hSn.cell 1
          have zn : ws.heap.size < wn.heap.size := hSn.lt
          have zbk : b1 < ws.heap.size := hBk.lt
          have zrb : wo.heap.size < ws.heap.size := HBs.out.lt
          clear hz hyt hkb hBk hE6 hT1 hwn hbn hSn hl6 hIz
          go_upto_region 16 with (fail)
          rw [← HWn.out]
          have HSS := Lib.hid (And.intro s0 s1)
          have HNe : Hid (¬ g0 = b1) := Lib.hid (fun e => HOs.out.ruleNe (List.mem_of_getElem? HYt.out) (fun e => by have h1 := congrArg List.length e; dsimp only at h1; rw [midS_len] at h1; simp at h1; rw [h1] at hsl; simp at hsl) (by rw [e]; rfl))
          clear s0 s1
          have hcase : (st = true ∧ sn = x) ∨ (st = true ∧ ¬ sn = x) ∨ st = false := by cases st; exact .inr (.inr rfl); by_cases e : sn = x; exact .inl ⟨rfl, e⟩; exact .inr (.inl ⟨rfl, e⟩)
          rcases hcase with ⟨rfl, hsx⟩ | ⟨rfl, hsx⟩ | rfl
          · have HSet : Hid ((putV Q x (gn + ks) t s ⟨rl, rr⟩).set t ⟨rl, (midS x (gn + ks) s rr).set s ⟨false, gn + ks⟩⟩ = putV Q x (gn + ks) t (s + 1) ⟨rl, rr⟩) := Lib.hid (by
              have h := putV_set (x := x) (m := gn + ks) HRt.out HZ.out
              rw [hsx, show putS x (gn + ks) ⟨true, x⟩ = ⟨false, gn + ks⟩ by simp [putS]] at h
              exact h)
            rw [hsx] at y1
            have HS0 : Hid (ws.cell? ⟨b1, o + s * 2, none⟩ = some (.bool true) ∧ ws.cell? ⟨b1, o + s * 2 + 1, none⟩ = some (.int .i64 x)) := Lib.hid ⟨HSS.out.1, by rw [HSS.out.2, hsx]⟩
            clear hsx
            refine wp_region_noPanic ?_
            refine wp_region_held_drew (S := (fun w' => w'.cell? ⟨ws.heap.size, 0, none⟩ = some (.bool true) ∧ w'.cell? ⟨ws.heap.size, 1, none⟩ = some (.int .i64 x))) (by kernel_rfl) ?ha (fun hHeld => ?ba)
            case ha => ((try dsimp only); go_keep)
            refine take_run (i := 0) (v := ?va0) rfl (by kernel_rfl) (by kernel_rfl) (by kernel_rfl) (fun _ _ _ h => h) (by rfl) ?ya0 (by assumption) ?ra0
            case ya0 => (intro w hSw; (try dsimp only at hSw); go_simp; try with_reducible rfl)
            try simp only [Act.put, List.setIfInBounds_toArray, List.set_cons_zero, List.set_cons_succ]
            refine take_run (i := 1) (v := ?va1) rfl (by kernel_rfl) (by kernel_rfl) (by kernel_rfl) (fun _ _ _ h => h) (by rfl) ?ya1 (by assumption) ?ra1
            case ya1 => (intro w hSw; (try dsimp only at hSw); go_simp; try with_reducible rfl)
            try simp only [Act.put, List.setIfInBounds_toArray, List.set_cons_zero, List.set_cons_succ]
            refine take_call (i := 2) rfl (by kernel_rfl) (by rfl) (fun Kq hK => ?_)
            go_simp
            go_at_call 71
            refine (t_any x _).mono ?_
            rintro e p1 ⟨rfl, hbp⟩
            have HBp : Hid (Below wn.heap.size wn p1) := Lib.hid (bundrew hbp)
            have yy0 := (HBp.out.cell (p := ⟨ws.heap.size, 0, none⟩) zn).trans y0
            have yy1 := (HBp.out.cell (p := ⟨ws.heap.size, 1, none⟩) zn).trans y1
            clear hbp
            refine hK.out _ _ ?ha2 (fun hHeld => ?ra2)
            case ha2 => ((try dsimp only); go_keep)
            clear hK Kq
            try simp only [Act.put, List.setIfInBounds_toArray, List.set_cons_zero, List.set_cons_succ]
            refine take_run (i := 3) (v := ?va3) rfl (by kernel_rfl) (by kernel_rfl) (by kernel_rfl) (fun _ _ _ h => h) (by rfl) ?ya3 (by assumption) ?ra3
            case ya3 => (intro w hSw; (try dsimp only at hSw); go_simp; try with_reducible rfl)
            try simp only [Act.put, List.setIfInBounds_toArray, List.set_cons_zero, List.set_cons_succ]
            refine wpAnyH_done (by kernel_rfl) ?_ _
            refine NoPanic.normal ?_
            have HBsp : Hid (Below ws.heap.size ws p1) := Lib.hid (HBn.out.trans (HBp.out.mono HBn.out.size))
            have HFp := Lib.hid (HFs.out.below HBsp.out)
            have HOp := Lib.hid (HOs.out.below HBsp.out (Nat.le_refl _))
            have HKp := Lib.hid (HKs.out.below HBsp.out)
            have HBr := Lib.hid (HBs.out.below HBsp.out HBs.out.lt)
            have HCp : Hid (p1.cell? ⟨g0, t * 2 + 1, none⟩ = some (.slice (some ⟨b1, o, none⟩) rr.length c5)) := Lib.hid ((HBsp.out.cell (p := ⟨g0, t * 2 + 1, none⟩) hg12).trans HCs.out)
            have zsp : ws.heap.size ≤ p1.heap.size := HBsp.out.size
            clear y0 y1 yy0 yy1
            have HBkp := Lib.hid (HBk.out.below HBsp.out HBk.out.lt)
            have HS01 : Hid (p1.cell? ⟨b1, o + s * 2, none⟩ = some (.bool true) ∧ p1.cell? ⟨b1, o + s * 2 + 1, none⟩ = some (.int .i64 x)) := Lib.hid ⟨(HBsp.out.cell (p := ⟨b1, o + s * 2, none⟩) zbk).trans HS0.out.1, (HBsp.out.cell (p := ⟨b1, o + s * 2 + 1, none⟩) zbk).trans HS0.out.2⟩
            have s0p := HS01.out.1
            have s1p := HS01.out.2
            have u1 : p1.cell? ⟨wo.heap.size, 1, none⟩ = some (.slice (some ⟨b1, o, none⟩) rr.length c5) := HBr.out.cell 1
            have HGp := Lib.hid (HG4.out.kept HKp.out (fun h => by omega))
            have HHp := Lib.hid (HH4.out.kept HKp.out (fun h => by omega))
            have u2 : p1.cell? ⟨w.heap.size, 1, none⟩ = some (.int .i64 gn) := HGp.out.cell 1
            have u3 : p1.cell? ⟨w.heap.size + 1, 2, none⟩ = some (.int .i64 ks) := HHp.out.cell 2
            have zr1 : wo.heap.size < p1.heap.size := by omega
            have zr2 : w.heap.size < p1.heap.size := by omega
            have zr3 : w.heap.size + 1 < p1.heap.size := by omega
            go_wp2_with fail
            refine wp_region_noPanic ?_
            refine wp_region_held_drew (S := (fun w' => w'.cell? ⟨wo.heap.size, 1, none⟩ = some (.slice (some ⟨b1, o, none⟩) rr.length c5) ∧ w'.cell? ⟨w.heap.size, 1, none⟩ = some (.int .i64 gn) ∧ w'.cell? ⟨w.heap.size + 1, 2, none⟩ = some (.int .i64 ks))) (by kernel_rfl) ?hd (fun hHeld => ?bd)
            case hd => ((try dsimp only); go_keep)
            refine take_run (i := 0) (v := ?vd0) rfl (by kernel_rfl) (by kernel_rfl) (by kernel_rfl) (fun _ _ _ h => h) (by rfl) ?yd0 (by assumption) ?rd0
            case yd0 => (intro w hSw; (try dsimp only at hSw); go_simp; try with_reducible rfl)
            try simp only [Act.put, List.setIfInBounds_toArray, List.set_cons_zero, List.set_cons_succ]
            refine take_run (i := 1) (v := ?vd1) rfl (by kernel_rfl) (by kernel_rfl) (by kernel_rfl) (fun _ _ _ h => h) (by rfl) ?yd1 (by assumption) ?rd1
            case yd1 => (intro w hSw; (try dsimp only at hSw); go_simp; try with_reducible rfl)
            try simp only [Act.put, List.setIfInBounds_toArray, List.set_cons_zero, List.set_cons_succ]
            refine take_run (i := 2) (v := ?vd2) rfl (by kernel_rfl) (by kernel_rfl) (by kernel_rfl) (fun _ _ _ h => h) (by rfl) ?yd2 (by assumption) ?rd2
            case yd2 => (intro w hSw; (try dsimp only at hSw); go_simp; try with_reducible rfl)
            try simp only [Act.put, List.setIfInBounds_toArray, List.set_cons_zero, List.set_cons_succ]
            refine take_run (i := 3) (v := ?vd3) rfl (by kernel_rfl) (by kernel_rfl) (by kernel_rfl) (fun _ _ _ h => h) (by rfl) ?yd3 (by assumption) ?rd3
            case yd3 => (intro w hSw; (try dsimp only at hSw); go_simp; try with_reducible rfl)
            try simp only [Act.put, List.setIfInBounds_toArray, List.set_cons_zero, List.set_cons_succ]
            refine take_run (i := 4) (v := ?vd4) rfl (by kernel_rfl) (by kernel_rfl) (by kernel_rfl) (fun _ _ _ h => h) (by rfl) ?yd4 (by assumption) ?rd4
            case yd4 => (intro w hSw; (try dsimp only at hSw); go_simp; try with_reducible rfl)
            try simp only [Act.put, List.setIfInBounds_toArray, List.set_cons_zero, List.set_cons_succ]
            refine take_run (i := 5) (v := ?vd5) rfl (by kernel_rfl) (by kernel_rfl) (by kernel_rfl) (fun _ _ _ h => h) (by rfl) ?yd5 (by assumption) ?rd5
            case yd5 => (intro w hSw; (try dsimp only at hSw); go_simp; try with_reducible rfl)
            try simp only [Act.put, List.setIfInBounds_toArray, List.set_cons_zero, List.set_cons_succ]
            refine take_run (i := 6) (v := ?vd6) rfl (by kernel_rfl) (by kernel_rfl) (by kernel_rfl) (fun _ _ _ h => h) (by rfl) ?yd6 (by assumption) ?rd6
            case yd6 => (intro w hSw; (try dsimp only at hSw); go_simp; try with_reducible rfl)
            try simp only [Act.put, List.setIfInBounds_toArray, List.set_cons_zero, List.set_cons_succ]
            refine take_run (i := 7) (v := ?vd7) rfl (by kernel_rfl) (by kernel_rfl) (by kernel_rfl) (fun _ _ _ h => h) (by rfl) ?yd7 (by assumption) ?rd7
            case yd7 => (intro w hSw; (try dsimp only at hSw); go_simp; try with_reducible rfl)
            try simp only [Act.put, List.setIfInBounds_toArray, List.set_cons_zero, List.set_cons_succ]
            refine take_call (i := 8) rfl (by kernel_rfl) (by rfl) (fun Kq hK => ?_)
            go_simp
            go_at_call 72
            refine (n_any (gn + ks) _).mono ?_
            rintro e p2 ⟨rfl, hbq⟩
            have HBq : Hid (Below p1.heap.size p1 p2) := Lib.hid (bundrew hbq)
            have v1 := (HBq.out.cell (p := ⟨wo.heap.size, 1, none⟩) (by show wo.heap.size < p1.heap.size; omega)).trans u1
            have v2 := (HBq.out.cell (p := ⟨w.heap.size, 1, none⟩) (by show w.heap.size < p1.heap.size; omega)).trans u2
            have v3 := (HBq.out.cell (p := ⟨w.heap.size + 1, 2, none⟩) (by show w.heap.size + 1 < p1.heap.size; omega)).trans u3
            have HBk2 := Lib.hid (HBkp.out.below HBq.out HBkp.out.lt)
            have f0 := HBk2.out.frozen (o + s * 2)
            have f1 := HBk2.out.frozen (o + s * 2 + 1)
            have t0 := (HBq.out.cell (p := ⟨b1, o + s * 2, none⟩) (by show b1 < p1.heap.size; omega)).trans s0p
            have t1 := (HBq.out.cell (p := ⟨b1, o + s * 2 + 1, none⟩) (by show b1 < p1.heap.size; omega)).trans s1p
            have zb2 : b1 < p2.heap.size := HBk2.out.lt
            have hkp2 : Kept (fun y => y = b1) p2 ((p2.setCell ⟨b1, o + s * 2, none⟩ (.bool false)).setCell ⟨b1, o + s * 2 + 1, none⟩ (.int .i64 (gn + ks))) := ((Kept.refl (fun y => y = b1) p2).setCell (p := ⟨b1, o + s * 2, none⟩) (.inl rfl) _).setCell (p := ⟨b1, o + s * 2 + 1, none⟩) (.inl rfl) _
            have zpq : p1.heap.size ≤ p2.heap.size := HBq.out.size
            have l1 := (hkp2.cell (p := ⟨wo.heap.size, 1, none⟩) (by show wo.heap.size < p2.heap.size; omega) (by show ¬ wo.heap.size = b1; omega)).trans v1
            have l2 := (hkp2.cell (p := ⟨w.heap.size, 1, none⟩) (by show w.heap.size < p2.heap.size; omega) (by show ¬ w.heap.size = b1; omega)).trans v2
            have l3 := (hkp2.cell (p := ⟨w.heap.size + 1, 2, none⟩) (by show w.heap.size + 1 < p2.heap.size; omega) (by show ¬ w.heap.size + 1 = b1; omega)).trans v3
            have HLL := Lib.hid (And.intro l1 (And.intro l2 l3))
            have HKp2 := Lib.hid hkp2
            clear hbq hkp2 l1 l2 l3
            refine hK.out _ _ ?hd8 (fun hHeld => ?rd8)
            case hd8 => ((try dsimp only); go_keep)
            clear hK Kq
            try simp only [Act.put, List.setIfInBounds_toArray, List.set_cons_zero, List.set_cons_succ]
            refine take_run (i := 9) (v := ?vd9) rfl (by kernel_rfl) (by kernel_rfl) (by kernel_rfl) (fun _ _ _ h => h) (by rfl) ?yd9 (by assumption) ?rd9
            case yd9 => (intro w hSw; (try dsimp only at hSw); go_simp; try with_reducible rfl)
            try simp only [Act.put, List.setIfInBounds_toArray, List.set_cons_zero, List.set_cons_succ]
            refine take_call (i := 10) rfl (by kernel_rfl) (by rfl) (fun Kq hK => ?_)
            go_simp
            refine hK.out _ _ ?hd10 (fun hHeld => ?rd10)
            case hd10 => exact HLL.out
            clear hK Kq
            try simp only [Act.put, List.setIfInBounds_toArray, List.set_cons_zero, List.set_cons_succ]
            refine wpAnyH_done (by kernel_rfl) ?_ _
            refine NoPanic.normal ?_
            obtain ⟨wE, hwE⟩ : ∃ wE : World, wE = (p2.setCell ⟨b1, o + s * 2, none⟩ (.bool false)).setCell ⟨b1, o + s * 2 + 1, none⟩ (.int .i64 (gn + ks)) := ⟨_, rfl⟩
            rw [← hwE]
            have HWE := Lib.hid hwE
            have HKE : Hid (Kept (fun y => y = b1) p2 wE) := Lib.hid (by rw [hwE]; exact HKp2.out)
            have HOE : Hid (Own wE (fun _ => False) w2.heap.size 61 (.slice (some ⟨g0, 0, none⟩) J.length c3) (zs.set t ⟨⟨rl, (midS x (gn + ks) s rr).set s ⟨false, gn + ks⟩⟩, b1⟩)) := Lib.hid (by
              rw [hwE]
              exact (HOp.out.below HBq.out (Nat.le_refl _)).putB (x := ⟨⟨rl, midS x (gn + ks) s rr⟩, b1⟩) HYt.out (fun k y hy hne => HFs.out.apart k t y _ hy HYt.out hne) rfl ((HBq.out.cell (p := ⟨g0, t * 2 + 1, none⟩) (by show g0 < p1.heap.size; omega)).trans HCp.out) HBk2.out (by dsimp only; rw [midS_len]; exact hsl) ⟨false, gn + ks⟩ hI2.out)
            have HFE : Hid (Frs wE w2.heap.size (zs.set t ⟨⟨rl, (midS x (gn + ks) s rr).set s ⟨false, gn + ks⟩⟩, b1⟩)) := Lib.hid ((HFp.out.below HBq.out).put HYt.out rfl HKE.out ⟨_, _, by rw [hwE]; exact (HBk2.out.set_ _ _).set_ _ _⟩)
            have HBE := Lib.hid ((HBr.out.below HBq.out HBr.out.lt).kept HKE.out (by omega))
            have HCE : Hid (wE.cell? ⟨g0, t * 2 + 1, none⟩ = some (.slice (some ⟨b1, o, none⟩) rr.length c5)) := Lib.hid ((HKE.out.cell (p := ⟨g0, t * 2 + 1, none⟩) (by show g0 < p2.heap.size; omega) (fun e => HNe.out e)).trans ((HBq.out.cell (p := ⟨g0, t * 2 + 1, none⟩) (by show g0 < p1.heap.size; omega)).trans HCp.out))
            have HKF := Lib.hid ((HKp.out.below HBq.out).trans (HKE.out.mono (fun b _ (hb : b = b1) => by subst hb; exact ⟨hkb2, hkb3⟩)))
            clear hwE
            go_wp2
            go_roundw
            case rel => exact ⟨s + 1, zs.set t ⟨⟨rl, (midS x (gn + ks) s rr).set s ⟨false, gn + ks⟩⟩, b1⟩, hsl, by go_num, by rw [map_set_rule, HZs.out]; exact HSet.out, set_blk HHs.out HYt.out rfl, HFE.out, HOE.out, HBE.out, HCE.out, HKF.out⟩
            case measure => simp [intOf]; omega
          · refine wp_region_noPanic ?_
            refine wp_region_held_drew (S := (fun w' => w'.cell? ⟨ws.heap.size, 0, none⟩ = some (.bool true) ∧ w'.cell? ⟨ws.heap.size, 1, none⟩ = some (.int .i64 sn))) (by kernel_rfl) ?hb (fun hHeld => ?bb)
            case hb => ((try dsimp only); go_keep)
            refine take_run (i := 0) (v := ?vb0) rfl (by kernel_rfl) (by kernel_rfl) (by kernel_rfl) (fun _ _ _ h => h) (by rfl) ?yb0 (by assumption) ?rb0
            case yb0 => (intro w hSw; (try dsimp only at hSw); go_simp; try with_reducible rfl)
            try simp only [Act.put, List.setIfInBounds_toArray, List.set_cons_zero, List.set_cons_succ]
            refine take_run (i := 1) (v := ?vb1) rfl (by kernel_rfl) (by kernel_rfl) (by kernel_rfl) (fun _ _ _ h => h) (by rfl) ?yb1 (by assumption) ?rb1
            case yb1 => (intro w hSw; (try dsimp only at hSw); go_simp; try with_reducible rfl)
            try simp only [Act.put, List.setIfInBounds_toArray, List.set_cons_zero, List.set_cons_succ]
            refine take_call (i := 2) rfl (by kernel_rfl) (by rfl) (fun Kq hK => ?_)
            go_simp
            go_at_call 71
            refine (t_any x _).mono ?_
            rintro e p1 ⟨rfl, hbp⟩
            have HBp : Hid (Below wn.heap.size wn p1) := Lib.hid (bundrew hbp)
            have yy0 := (HBp.out.cell (p := ⟨ws.heap.size, 0, none⟩) zn).trans y0
            have yy1 := (HBp.out.cell (p := ⟨ws.heap.size, 1, none⟩) zn).trans y1
            clear hbp
            refine hK.out _ _ ?hb2 (fun hHeld => ?rb2)
            case hb2 => ((try dsimp only); go_keep)
            clear hK Kq
            try simp only [Act.put, List.setIfInBounds_toArray, List.set_cons_zero, List.set_cons_succ]
            refine take_run (i := 3) (v := ?vb3) rfl (by kernel_rfl) (by kernel_rfl) (by kernel_rfl) (fun _ _ _ h => h) (by rfl) ?yb3 (by assumption) ?rb3
            case yb3 => (intro w hSw; (try dsimp only at hSw); go_simp; try with_reducible rfl)
            try simp only [Act.put, List.setIfInBounds_toArray, List.set_cons_zero, List.set_cons_succ]
            refine wpAnyH_done (by kernel_rfl) ?_ _
            refine NoPanic.normal ?_
            have HBsp : Hid (Below ws.heap.size ws p1) := Lib.hid (HBn.out.trans (HBp.out.mono HBn.out.size))
            have HFp := Lib.hid (HFs.out.below HBsp.out)
            have HOp := Lib.hid (HOs.out.below HBsp.out (Nat.le_refl _))
            have HKp := Lib.hid (HKs.out.below HBsp.out)
            have HBr := Lib.hid (HBs.out.below HBsp.out HBs.out.lt)
            have HCp : Hid (p1.cell? ⟨g0, t * 2 + 1, none⟩ = some (.slice (some ⟨b1, o, none⟩) rr.length c5)) := Lib.hid ((HBsp.out.cell (p := ⟨g0, t * 2 + 1, none⟩) hg12).trans HCs.out)
            have zsp : ws.heap.size ≤ p1.heap.size := HBsp.out.size
            clear y0 y1 yy0 yy1
            go_wp2
            go_roundw
            case rel => exact ⟨s + 1, zs, hsl, by go_num, by rw [HZs.out]; exact (putV_skip HZ.out (by simp [putS, hsx])).symm, HHs.out, HFp.out, HOp.out, HBr.out, HCp.out, HKp.out⟩
            case measure => simp [intOf]; omega
          · refine wp_region_noPanic ?_
            refine wp_region_held_drew (S := (fun w' => w'.cell? ⟨ws.heap.size, 0, none⟩ = some (.bool false) ∧ w'.cell? ⟨ws.heap.size, 1, none⟩ = some (.int .i64 sn))) (by kernel_rfl) ?hc (fun hHeld => ?bc)
            case hc => ((try dsimp only); go_keep)
            refine take_run (i := 0) (v := ?vc0) rfl (by kernel_rfl) (by kernel_rfl) (by kernel_rfl) (fun _ _ _ h => h) (by rfl) ?yc0 (by assumption) ?rc0
            case yc0 => (intro w hSw; (try dsimp only at hSw); go_simp; try with_reducible rfl)
            try simp only [Act.put, List.setIfInBounds_toArray, List.set_cons_zero, List.set_cons_succ]
            refine take_run (i := 1) (v := ?vc1) rfl (by kernel_rfl) (by kernel_rfl) (by kernel_rfl) (fun _ _ _ h => h) (by rfl) ?yc1 (by assumption) ?rc1
            case yc1 => (intro w hSw; (try dsimp only at hSw); go_simp; try with_reducible rfl)
            try simp only [Act.put, List.setIfInBounds_toArray, List.set_cons_zero, List.set_cons_succ]
            refine take_call (i := 2) rfl (by kernel_rfl) (by rfl) (fun Kq hK => ?_)
            go_simp
            go_at_call 71
            refine (t_any x _).mono ?_
            rintro e p1 ⟨rfl, hbp⟩
            have HBp : Hid (Below wn.heap.size wn p1) := Lib.hid (bundrew hbp)
            have yy0 := (HBp.out.cell (p := ⟨ws.heap.size, 0, none⟩) zn).trans y0
            have yy1 := (HBp.out.cell (p := ⟨ws.heap.size, 1, none⟩) zn).trans y1
            clear hbp
            refine hK.out _ _ ?hc2 (fun hHeld => ?rc2)
            case hc2 => ((try dsimp only); go_keep)
            clear hK Kq
            try simp only [Act.put, List.setIfInBounds_toArray, List.set_cons_zero, List.set_cons_succ]
            refine take_run (i := 3) (v := ?vc3) rfl (by kernel_rfl) (by kernel_rfl) (by kernel_rfl) (fun _ _ _ h => h) (by rfl) ?yc3 (by assumption) ?rc3
            case yc3 => (intro w hSw; (try dsimp only at hSw); go_simp; try with_reducible rfl)
            try simp only [Act.put, List.setIfInBounds_toArray, List.set_cons_zero, List.set_cons_succ]
            refine wpAnyH_done (by kernel_rfl) ?_ _
            refine NoPanic.normal ?_
            have HBsp : Hid (Below ws.heap.size ws p1) := Lib.hid (HBn.out.trans (HBp.out.mono HBn.out.size))
            have HFp := Lib.hid (HFs.out.below HBsp.out)
            have HOp := Lib.hid (HOs.out.below HBsp.out (Nat.le_refl _))
            have HKp := Lib.hid (HKs.out.below HBsp.out)
            have HBr := Lib.hid (HBs.out.below HBsp.out HBs.out.lt)
            have HCp : Hid (p1.cell? ⟨g0, t * 2 + 1, none⟩ = some (.slice (some ⟨b1, o, none⟩) rr.length c5)) := Lib.hid ((HBsp.out.cell (p := ⟨g0, t * 2 + 1, none⟩) hg12).trans HCs.out)
            have zsp : ws.heap.size ≤ p1.heap.size := HBsp.out.size
            clear y0 y1 yy0 yy1
            go_wp2
            go_roundw
            case rel => exact ⟨s + 1, zs, hsl, by go_num, by rw [HZs.out]; exact (putV_skip HZ.out (by simp [putS])).symm, HHs.out, HFp.out, HOp.out, HBr.out, HCp.out, HKp.out⟩
            case measure => simp [intOf]; omega
        · have hss : s = rr.length := by omega
          have HFin : Hid (zs.map RuleB.rule = putU Q x (gn + ks) (t + 1)) := Lib.hid (by rw [HZs.out, hss]; exact putV_last HRt.out)
          go_wp2
          go_roundw
          case rel => exact ⟨t + 1, zs, hlt, by go_num, HFin.out, HHs.out, HFs.out, HOs.out, HKs.out⟩
          case measure => simp [intOf]; omega
    · have htt : t = rs.length := by omega
      have HFin : Hid (ys.map RuleB.rule = R) := Lib.hid (by rw [HYs.out, htt]; exact HJ.out)
      have HJR : Hid (J.length = R.length) := Lib.hid (by rw [← HFin.out, List.length_map]; have h1 := HYs.out; have h2 := congrArg List.length h1; rw [List.length_map] at h2; rw [h2]; unfold putU; rw [List.length_append, List.length_map, List.length_take, List.length_drop, HQl.out, HJl.out]; omega)
      have HXE := Lib.hid (HX4.out.kept HKo.out (fun h => by omega))
      have HRE := Lib.hid (HR4.out.kept HKo.out (fun h => by omega))
      have HBE : Hid (Below w.heap.size w wo) := Lib.hid ((HB3.out.trans (HB4.out.mono (by have := HB3.out.size; omega))).trans (HKo.out.to_below (B := w.heap.size) (fun b hb => by omega) (by omega)))
      have HOE : Hid (Own wo (fun _ => False) w2.heap.size 61 (.slice A3 R.length c3) R) := Lib.hid (by have h := HOo.out.rules; rw [HFin.out, HJR.out] at h; exact h)
      have hc91 : R.length ≤ c3 := HOE.out.vl.els.2.1
      have e0 : wo.cell? ⟨w3.heap.size, 0, none⟩ = some (.int .i64 gt) := HXE.out.cell 0
      have e1 : wo.cell? ⟨w3.heap.size, 1, none⟩ = some (.int .i64 N) := HXE.out.cell 1
      have e2 : wo.cell? ⟨w3.heap.size, 2, none⟩ = some (.int .i64 gs) := HXE.out.cell 2
      have e3 : wo.cell? ⟨w3.heap.size, 3, none⟩ = some (.slice A3 R.length c3) := by rw [← HJR.out]; exact HXE.out.cell 3
      have zXE : w3.heap.size < wo.heap.size := HXE.out.lt
      clear htt
      go_wp2_with fail
      refine (finishE_any ⟨gt, N, gs, R⟩ A3 c3 _ wo hc91 hc32 HOE.out.vl.els.2.2.2 (fun b hb => hb.2)).mono ?_
      rintro e w10 ⟨hfin, hb10⟩
      have HB10 := Lib.hid (bthen HBE.out hb10 HBE.out.size)
      have HR10 := Lib.hid (HRE.out.below hb10 HRE.out.lt)
      have HO10 := Lib.hid (HOE.out.below hb10 (Nat.le_refl _))
      clear e0 e1 e2 e3 hb10
      have r0 := HR10.out.frozen 0
      have r1 := HR10.out.frozen 1
      have r2 := HR10.out.frozen 2
      have r3 := HR10.out.frozen 3
      have q0 : w10.cell? ⟨w.heap.size + 1 + 1, 0, none⟩ = some (.int .i64 0) := HR10.out.cell 0
      have q1 : w10.cell? ⟨w.heap.size + 1 + 1, 1, none⟩ = some (.int .i64 0) := HR10.out.cell 1
      have q2 : w10.cell? ⟨w.heap.size + 1 + 1, 2, none⟩ = some (.int .i64 0) := HR10.out.cell 2
      have q3 : w10.cell? ⟨w.heap.size + 1 + 1, 3, none⟩ = some (.slice none 0 0) := HR10.out.cell 3
      have zR : w.heap.size + 1 + 1 < w10.heap.size := HR10.out.lt
      rcases hfin with ⟨hfin, rfl⟩ | ⟨hfin, rfl⟩
      · skip
        go_wp2_with fail
        generalize hwF : World.setCell _ _ _ = wF
        obtain ⟨hRF, kF⟩ := set4 HR10.out (.int .i64 gt) (.int .i64 N) (.int .i64 gs) (.slice A3 R.length c3)
        rw [hwF] at hRF kF
        have u0 : wF.cell? ⟨w.heap.size + 1 + 1, 0, none⟩ = some (.int .i64 gt) := hRF.cell 0
        have u1 : wF.cell? ⟨w.heap.size + 1 + 1, 1, none⟩ = some (.int .i64 N) := hRF.cell 1
        have u2 : wF.cell? ⟨w.heap.size + 1 + 1, 2, none⟩ = some (.int .i64 gs) := hRF.cell 2
        have u3 : wF.cell? ⟨w.heap.size + 1 + 1, 3, none⟩ = some (.slice A3 R.length c3) := hRF.cell 3
        clear hwF
        exact bodyPost_ret (v := .tuple #[.agg #[.int .i64 gt, .int .i64 N, .int .i64 gs, .slice A3 R.length c3], .int .i64 0]) (by simp [results, Tryd.results19, go_sem, u0, u1, u2, u3]) rfl (retMk_ok (by dsimp only; omega) hfin (A := A3) (c := c3) hc91 hc32 rfl (((HO10.out.kept kF (fun b (hb : b = w.heap.size + 1 + 1) h => h.elim id (fun h => by omega))).base (base' := w.heap.size) (by omega)).vl.els.2.2.2.keep (fun _ _ _ => rfl) (fun b hb => ⟨by rcases hb.1 with h | h; exact h.elim; exact h, hb.2⟩)) (HB10.out.trans (kF.to_below (B := w.heap.size) (fun b (hb : b = w.heap.size + 1 + 1) => by omega) HB10.out.size)))
      · skip
        obtain ⟨E, hE⟩ : ∃ E, E = checkI ⟨gt, N, gs, R⟩ := ⟨_, rfl⟩
        have HEq := Lib.hid hE
        have hE0 : ¬ E = 0 := by rw [hE]; exact hfin
        rw [← hE]
        clear hE
        go_wp2_with fail
        generalize hwF : World.setCell _ _ _ = wF
        obtain ⟨hRF, kF⟩ := set4 HR10.out (.int .i64 0) (.int .i64 0) (.int .i64 0) (.slice none 0 0)
        rw [hwF] at hRF kF
        have u0 : wF.cell? ⟨w.heap.size + 1 + 1, 0, none⟩ = some (.int .i64 0) := hRF.cell 0
        have u1 : wF.cell? ⟨w.heap.size + 1 + 1, 1, none⟩ = some (.int .i64 0) := hRF.cell 1
        have u2 : wF.cell? ⟨w.heap.size + 1 + 1, 2, none⟩ = some (.int .i64 0) := hRF.cell 2
        have u3 : wF.cell? ⟨w.heap.size + 1 + 1, 3, none⟩ = some (.slice none 0 0) := hRF.cell 3
        clear hwF
        exact bodyPost_ret (v := .tuple #[.agg #[.int .i64 0, .int .i64 0, .int .i64 0, .slice none 0 0], .int .i64 E]) (by simp [results, Tryd.results19, go_sem, u0, u1, u2, u3]) rfl (retMk_bad (by dsimp only; omega) hfin (by rw [HEq.out]) (HB10.out.trans (kF.to_below (B := w.heap.size) (fun b (hb : b = w.heap.size + 1 + 1) => by omega) HB10.out.size)))

set_option maxRecDepth 100000 in
set_option maxHeartbeats 8000000 in
theorem putBig_any (g h : Gram) (x : Int) (A B : Option Addr) (c d : Nat) (S : Nat → Prop) (w : World) (hck : checkI g = 0) (hckh : checkI h = 0) (hte : h.terms = g.terms) (hx : 0 ≤ x ∧ x < g.terms) (hn10 : 10 < g.nons + h.nons) (hlc : g.rules.length ≤ c) (hc : c ≤ 9223372036854775807) (hA : Els w S g.rules A) (hld : h.rules.length ≤ d) (hd : d ≤ 9223372036854775807) (hB : Els w S h.rules B) (hS : ∀ b, S b → b < w.heap.size) :
    Calls Tryd.prog 19 #[.agg #[.int .i64 g.terms, .int .i64 g.nons, .int .i64 g.start, .slice A g.rules.length c], .int .i64 x, .agg #[.int .i64 h.terms, .int .i64 h.nons, .int .i64 h.start, .slice B h.rules.length d]] w (RetMk (putG g x h) w) := by
  have hv := validG_of hck
  have hvh := validG_of hckh
  have hb64 : I64 g.terms ∧ I64 g.nons ∧ I64 g.start := by
    have h1 := hv.t1; have h2 := hv.t8; have h3 := hv.n1; have h4 := hv.n10; have h5 := hv.s0; have h6 := hv.s1
    unfold I64; omega
  have hb64h : I64 h.terms ∧ I64 h.nons ∧ I64 h.start := by
    have h1 := hvh.t1; have h2 := hvh.t8; have h3 := hvh.n1; have h4 := hvh.n10; have h5 := hvh.s0; have h6 := hvh.s1
    unfold I64; omega
  have hjr : putU (joinR 0 [g, h]) x (g.nons + h.start) g.rules.length = (putG g x h).rules := by
    have e : joinR 0 [g, h] = g.rules.map (shR 0) ++ h.rules.map (shR g.nons) := by simp [joinR]
    have el : (g.rules.map (shR 0)).length = g.rules.length := List.length_map _
    unfold putU putG
    rw [e, ← el, List.take_left, List.drop_left]
  have hs0 : 0 ≤ g.start ∧ g.start < g.nons := ⟨hv.s0, hv.s1⟩
  have hs1 : 0 ≤ h.start ∧ h.start < h.nons := ⟨hvh.s0, hvh.s1⟩
  have hn1 : 1 ≤ g.nons := hv.n1
  have hm1 : 1 ≤ h.nons := hvh.n1
  have hrl : g.rules.length ≤ 32 := hv.len
  have hrl2 : h.rules.length ≤ 32 := hvh.len
  have hsn : sumN [g, h] = g.nons + h.nons := by simp [sumN]
  obtain ⟨R, hR⟩ : ∃ R, R = (putG g x h).rules := ⟨_, rfl⟩
  have hcg : putG g x h = ⟨g.terms, g.nons + h.nons, g.start, R⟩ := by rw [hR]; rfl
  rw [hcg]
  rw [← hR] at hjr
  clear hR hcg
  obtain ⟨gt, gn, gs, rs⟩ := g
  obtain ⟨ht, hn, ks, rs2⟩ := h
  dsimp only at *
  have hte' := hte.symm
  clear hte
  subst hte'
  have hnn : 2 ≤ gn + hn := by omega
  have hnn2 : gn + hn ≤ 20 := by have h1 := hv.n10; have h2 := hvh.n10; dsimp only at h1 h2; omega
  have hks : gn + ks ≤ 20 := by omega
  generalize hN : gn + hn = N at *
  have hN10 : 10 < N := hn10
  have hN20 : N ≤ 20 := hnn2
  have hN1 : 2 ≤ N := hnn
  have hwr : IntKind.i64.wrap (gn + ks) = gn + ks := IntWalk.i64_in _ (by omega)
  have hI1 : Hid (I64 gs) := Lib.hid hb64.2.2
  have hI2 : Hid (I64 (gn + ks)) := Lib.hid (by unfold I64; omega)
  have hIN : Hid (I64 N) := Lib.hid (by unfold I64; omega)
  have hx0 : 0 ≤ x := hx.1
  have hx1 : x < gt := hx.2
  have hx2 : ¬ x < 0 := by omega
  have hx3 : ¬ gt ≤ x := by omega
  have HJ := Lib.hid hjr
  have HCk := Lib.hid hck
  have HVg := Lib.hid hv
  have HVh := Lib.hid hvh
  have HCh := Lib.hid hckh
  have H64 := Lib.hid hb64
  have H64h := Lib.hid hb64h
  have HSn := Lib.hid hsn
  obtain ⟨w1, hw1⟩ : ∃ w1 : World, w1 = ((w.alloc (.cells #[.int .i64 gt, .int .i64 gn, .int .i64 gs, .slice A rs.length c] 25)).alloc (.cells #[.int .i64 gt, .int .i64 hn, .int .i64 ks, .slice B rs2.length d] 25)).alloc (.cells #[.int .i64 0, .int .i64 0, .int .i64 0, .slice none 0 0] 25) := ⟨_, rfl⟩
  have HW1 := Lib.hid hw1
  have hb1 : Below w.heap.size w w1 := by rw [hw1]; exact (((Below.refl _ _).alloc (Nat.le_refl _) _).alloc (by simp) _).alloc (by simp; omega) _
  have HG1 : Hid (Blk' w1 w.heap.size 25 #[.int .i64 gt, .int .i64 gn, .int .i64 gs, .slice A rs.length c]) := Lib.hid (by rw [hw1]; exact ((Blk'.new w _ _).alloc _).alloc _)
  have HH1 : Hid (Blk' w1 (w.heap.size + 1) 25 #[.int .i64 gt, .int .i64 hn, .int .i64 ks, .slice B rs2.length d]) := Lib.hid (by rw [hw1]; exact (Blk'.new' (g := w.heap.size + 1) _ _ _ (by simp)).alloc _)
  have HR1 : Hid (Blk' w1 (w.heap.size + 1 + 1) 25 #[.int .i64 0, .int .i64 0, .int .i64 0, .slice none 0 0]) := Lib.hid (by rw [hw1]; exact Blk'.new' _ _ _ (by simp))
  have HB1 := Lib.hid hb1
  have HA1 := Lib.hid (hA.belowB hb1 hS)
  have HBB1 := Lib.hid (hB.belowB hb1 hS)
  have HS := Lib.hid hS
  have a0 : w1.cell? ⟨w.heap.size, 0, none⟩ = some (.int .i64 gt) := HG1.out.cell 0
  have a1 : w1.cell? ⟨w.heap.size, 1, none⟩ = some (.int .i64 gn) := HG1.out.cell 1
  have a2 : w1.cell? ⟨w.heap.size, 2, none⟩ = some (.int .i64 gs) := HG1.out.cell 2
  have a3 : w1.cell? ⟨w.heap.size, 3, none⟩ = some (.slice A rs.length c) := HG1.out.cell 3
  have h0 : w1.cell? ⟨w.heap.size + 1, 0, none⟩ = some (.int .i64 gt) := HH1.out.cell 0
  have h1 : w1.cell? ⟨w.heap.size + 1, 1, none⟩ = some (.int .i64 hn) := HH1.out.cell 1
  have h2 : w1.cell? ⟨w.heap.size + 1, 2, none⟩ = some (.int .i64 ks) := HH1.out.cell 2
  have h3 : w1.cell? ⟨w.heap.size + 1, 3, none⟩ = some (.slice B rs2.length d) := HH1.out.cell 3
  have zG : w.heap.size < w1.heap.size := HG1.out.lt
  have zH : w.heap.size + 1 < w1.heap.size := HH1.out.lt
  have HE1 := Lib.hid (els_gram2 (g := ⟨gt, gn, gs, rs⟩) (h := ⟨gt, hn, ks, rs2⟩) 25 HA1.out hlc hc H64.out HBB1.out hld hd H64h.out)
  have hba : Below w1.heap.size w1 (w1.alloc (.cells #[.int .i64 gt, .int .i64 gn, .int .i64 gs, .slice A rs.length c, .int .i64 gt, .int .i64 hn, .int .i64 ks, .slice B rs2.length d] 25)) := (Below.refl _ _).alloc (Nat.le_refl _) _
  have HBa := Lib.hid hba
  clear hw1 hb1 hA hB hck hckh hv hvh hb64 hb64h hjr hsn hS hba hN hn10
  go_enter Tryd.func19, Tryd.ntmps19
  go_upto_region 1 with (fail)
  rw [← HW1.out]
  go_wp2_with fail
  refine (ccheck_any [⟨gt, gn, gs, rs⟩, ⟨gt, hn, ks, rs2⟩] (some ⟨w1.heap.size, 0, none⟩) 2 (fun b => S b ∨ b = w1.heap.size) _ (by simp) (fun g hg => by simp at hg; rcases hg with rfl | rfl; exact HCk.out; exact HCh.out) HE1.out (fun b hb => by rcases hb with hb | hb; (have := HS.out b hb; have := HB1.out.size; simp; omega); (subst hb; simp))).mono ?_
  rintro e w2 ⟨rfl, hb2⟩
  have HB12 := Lib.hid (bthen HBa.out hb2 HBa.out.size)
  have HB2 := Lib.hid (bthen HB1.out HB12.out HB1.out.size)
  have HG2 := Lib.hid (HG1.out.below HB12.out HG1.out.lt)
  have HH2 := Lib.hid (HH1.out.below HB12.out HH1.out.lt)
  have HR2 := Lib.hid (HR1.out.below HB12.out HR1.out.lt)
  have HA2 := Lib.hid (HA1.out.belowB HB12.out (fun b hb => by have := HS.out b hb; have := HB1.out.size; omega))
  have HBB2 := Lib.hid (HBB1.out.belowB HB12.out (fun b hb => by have := HS.out b hb; have := HB1.out.size; omega))
  have b0 : w2.cell? ⟨w.heap.size, 0, none⟩ = some (.int .i64 gt) := HG2.out.cell 0
  have b1 : w2.cell? ⟨w.heap.size, 1, none⟩ = some (.int .i64 gn) := HG2.out.cell 1
  have b2 : w2.cell? ⟨w.heap.size, 2, none⟩ = some (.int .i64 gs) := HG2.out.cell 2
  have b3 : w2.cell? ⟨w.heap.size, 3, none⟩ = some (.slice A rs.length c) := HG2.out.cell 3
  have k0 : w2.cell? ⟨w.heap.size + 1, 0, none⟩ = some (.int .i64 gt) := HH2.out.cell 0
  have k1 : w2.cell? ⟨w.heap.size + 1, 1, none⟩ = some (.int .i64 hn) := HH2.out.cell 1
  have k2 : w2.cell? ⟨w.heap.size + 1, 2, none⟩ = some (.int .i64 ks) := HH2.out.cell 2
  have k3 : w2.cell? ⟨w.heap.size + 1, 3, none⟩ = some (.slice B rs2.length d) := HH2.out.cell 3
  have zG2 : w.heap.size < w2.heap.size := HG2.out.lt
  have zH2 : w.heap.size + 1 < w2.heap.size := HH2.out.lt
  have HE2 := Lib.hid (els_gram2 (g := ⟨gt, gn, gs, rs⟩) (h := ⟨gt, hn, ks, rs2⟩) 25 HA2.out hlc hc H64.out HBB2.out hld hd H64h.out)
  have hba2 : Below w2.heap.size w2 (w2.alloc (.cells #[.int .i64 gt, .int .i64 gn, .int .i64 gs, .slice A rs.length c, .int .i64 gt, .int .i64 hn, .int .i64 ks, .slice B rs2.length d] 25)) := (Below.refl _ _).alloc (Nat.le_refl _) _
  have HBa2 := Lib.hid hba2
  clear a0 a1 a2 a3 h0 h1 h2 h3 hb2 hba2
  go_wp2_with fail
  refine (joinE_any [⟨gt, gn, gs, rs⟩, ⟨gt, hn, ks, rs2⟩] 0 ⟨gt, gn, gs, rs⟩ (some ⟨w2.heap.size, 0, none⟩) 2 (fun b => S b ∨ b = w2.heap.size) _ (by simp) rfl (fun g hg => by simp at hg; rcases hg with rfl | rfl; exact HCk.out; exact HCh.out) (by omega) (by rw [HSn.out]; omega) HE2.out (fun b hb => by rcases hb with hb | hb; (have := HS.out b hb; have := HB2.out.size; simp; omega); (subst hb; simp))).mono ?_
  rintro e w3 ⟨hb3, hcases⟩
  rw [HSn.out, Int.add_zero] at hcases
  rcases hcases with ⟨hle, _⟩ | ⟨hle, rfl⟩
  · exact absurd hle (by omega)
  · have HB23 := Lib.hid (bthen HBa2.out hb3 HBa2.out.size)
    have HB3 := Lib.hid (bthen HB2.out HB23.out HB2.out.size)
    have HR3 := Lib.hid (HR2.out.below HB23.out HR2.out.lt)
    obtain ⟨w4, hw4⟩ : ∃ w4 : World, w4 = w3.alloc (.cells #[.int .i64 0, .int .i64 0, .int .i64 0, .slice none 0 0] 25) := ⟨_, rfl⟩
    have HW4 := Lib.hid hw4
    have hb4 : Below w3.heap.size w3 w4 := by rw [hw4]; exact (Below.refl _ _).alloc (Nat.le_refl _) _
    have HB10 := Lib.hid (bthen HB3.out hb4 HB3.out.size)
    have HR10 := Lib.hid (HR3.out.below hb4 HR3.out.lt)
    have r0 := HR10.out.frozen 0
    have r1 := HR10.out.frozen 1
    have r2 := HR10.out.frozen 2
    have r3 := HR10.out.frozen 3
    have q0 : w4.cell? ⟨w.heap.size + 1 + 1, 0, none⟩ = some (.int .i64 0) := HR10.out.cell 0
    have q1 : w4.cell? ⟨w.heap.size + 1 + 1, 1, none⟩ = some (.int .i64 0) := HR10.out.cell 1
    have q2 : w4.cell? ⟨w.heap.size + 1 + 1, 2, none⟩ = some (.int .i64 0) := HR10.out.cell 2
    have q3 : w4.cell? ⟨w.heap.size + 1 + 1, 3, none⟩ = some (.slice none 0 0) := HR10.out.cell 3
    have zR : w.heap.size + 1 + 1 < w4.heap.size := HR10.out.lt
    clear b0 b1 b2 b3 k0 k1 k2 k3 hb3 hw4 hb4
    go_upto_region 7 with (fail)
    rw [← HW4.out]
    go_wp2_with fail
    generalize hwF : World.setCell _ _ _ = wF
    obtain ⟨hRF, kF⟩ := set4 HR10.out (.int .i64 0) (.int .i64 0) (.int .i64 0) (.slice none 0 0)
    rw [hwF] at hRF kF
    have u0 : wF.cell? ⟨w.heap.size + 1 + 1, 0, none⟩ = some (.int .i64 0) := hRF.cell 0
    have u1 : wF.cell? ⟨w.heap.size + 1 + 1, 1, none⟩ = some (.int .i64 0) := hRF.cell 1
    have u2 : wF.cell? ⟨w.heap.size + 1 + 1, 2, none⟩ = some (.int .i64 0) := hRF.cell 2
    have u3 : wF.cell? ⟨w.heap.size + 1 + 1, 3, none⟩ = some (.slice none 0 0) := hRF.cell 3
    clear hwF
    exact bodyPost_ret (v := .tuple #[.agg #[.int .i64 0, .int .i64 0, .int .i64 0, .slice none 0 0], .int .i64 2]) (by simp [results, Tryd.results19, go_sem, u0, u1, u2, u3]) rfl (retMk_large (by dsimp only; omega) rfl (HB10.out.trans (kF.to_below (B := w.heap.size) (fun b (hb : b = w.heap.size + 1 + 1) => by omega) HB10.out.size)))

set_option maxRecDepth 100000 in
set_option maxHeartbeats 4000000 in
theorem putBad_any (g h : Gram) (A B : Option Addr) (c d : Nat) (S : Nat → Prop) (w : World) (x : Int) (hck : ¬ firstE [g, h] = 0) (h64 : I64 g.terms ∧ I64 g.nons ∧ I64 g.start) (h64h : I64 h.terms ∧ I64 h.nons ∧ I64 h.start) (hlc : g.rules.length ≤ c) (hc : c ≤ 9223372036854775807) (hA : Els w S g.rules A) (hld : h.rules.length ≤ d) (hd : d ≤ 9223372036854775807) (hB : Els w S h.rules B) (hS : ∀ b, S b → b < w.heap.size) :
    Calls Tryd.prog 19 #[.agg #[.int .i64 g.terms, .int .i64 g.nons, .int .i64 g.start, .slice A g.rules.length c], .int .i64 x, .agg #[.int .i64 h.terms, .int .i64 h.nons, .int .i64 h.start, .slice B h.rules.length d]] w (RetZ (firstE [g, h]) w) := by
  obtain ⟨gt, gn, gs, rs⟩ := g
  obtain ⟨ht, hn, ks, rs2⟩ := h
  dsimp only at *
  have HCk := Lib.hid hck
  clear hck
  obtain ⟨w1, hw1⟩ : ∃ w1 : World, w1 = (((w.alloc (.cells #[.int .i64 gt, .int .i64 gn, .int .i64 gs, .slice A rs.length c] 25)).alloc (.cells #[.int .i64 ht, .int .i64 hn, .int .i64 ks, .slice B rs2.length d] 25)).alloc (.cells #[.int .i64 0, .int .i64 0, .int .i64 0, .slice none 0 0] 25)) := ⟨_, rfl⟩
  have HW1 := Lib.hid hw1
  have hb1 : Below w.heap.size w w1 := by rw [hw1]; exact (((Below.refl _ _).alloc (Nat.le_refl _) _).alloc (by simp) _).alloc (by simp; omega) _
  have HG1 : Hid (Blk' w1 w.heap.size 25 #[.int .i64 gt, .int .i64 gn, .int .i64 gs, .slice A rs.length c]) := Lib.hid (by rw [hw1]; exact ((Blk'.new w _ _).alloc _).alloc _)
  have HH1 : Hid (Blk' w1 (w.heap.size + 1) 25 #[.int .i64 ht, .int .i64 hn, .int .i64 ks, .slice B rs2.length d]) := Lib.hid (by rw [hw1]; exact (Blk'.new' (g := w.heap.size + 1) _ _ _ (by simp)).alloc _)
  have HR1 : Hid (Blk' w1 (w.heap.size + 1 + 1) 25 #[.int .i64 0, .int .i64 0, .int .i64 0, .slice none 0 0]) := Lib.hid (by rw [hw1]; exact Blk'.new' _ _ _ (by simp))
  have HB1 := Lib.hid hb1
  have HA1 := Lib.hid (hA.belowB hb1 hS)
  have HBB1 := Lib.hid (hB.belowB hb1 hS)
  have HS : Hid (∀ b, S b → b < w1.heap.size) := Lib.hid (fun b hb => by have := hS b hb; have := hb1.size; omega)
  have a0 : w1.cell? ⟨w.heap.size, 0, none⟩ = some (.int .i64 gt) := HG1.out.cell 0
  have a1 : w1.cell? ⟨w.heap.size, 1, none⟩ = some (.int .i64 gn) := HG1.out.cell 1
  have a2 : w1.cell? ⟨w.heap.size, 2, none⟩ = some (.int .i64 gs) := HG1.out.cell 2
  have a3 : w1.cell? ⟨w.heap.size, 3, none⟩ = some (.slice A rs.length c) := HG1.out.cell 3
  have h0 : w1.cell? ⟨w.heap.size + 1, 0, none⟩ = some (.int .i64 ht) := HH1.out.cell 0
  have h1 : w1.cell? ⟨w.heap.size + 1, 1, none⟩ = some (.int .i64 hn) := HH1.out.cell 1
  have h2 : w1.cell? ⟨w.heap.size + 1, 2, none⟩ = some (.int .i64 ks) := HH1.out.cell 2
  have h3 : w1.cell? ⟨w.heap.size + 1, 3, none⟩ = some (.slice B rs2.length d) := HH1.out.cell 3
  have zG : w.heap.size < w1.heap.size := HG1.out.lt
  have zH : w.heap.size + 1 < w1.heap.size := HH1.out.lt
  have H64 := Lib.hid h64
  have H64h := Lib.hid h64h
  have HE1 := Lib.hid (els_gram2 (g := ⟨gt, gn, gs, rs⟩) (h := ⟨ht, hn, ks, rs2⟩) 25 HA1.out hlc hc H64.out HBB1.out hld hd H64h.out)
  have hba : Below w1.heap.size w1 (w1.alloc (.cells #[.int .i64 gt, .int .i64 gn, .int .i64 gs, .slice A rs.length c, .int .i64 ht, .int .i64 hn, .int .i64 ks, .slice B rs2.length d] 25)) := (Below.refl _ _).alloc (Nat.le_refl _) _
  have HBa := Lib.hid hba
  clear hw1 hb1 hA hB hS hba h64 h64h
  go_enter Tryd.func19, Tryd.ntmps19
  go_upto_region 1 with (fail)
  rw [← HW1.out]
  go_wp2_with fail
  refine (ccheckE_any [⟨gt, gn, gs, rs⟩, ⟨ht, hn, ks, rs2⟩] (some ⟨w1.heap.size, 0, none⟩) 2 (fun b => S b ∨ b = w1.heap.size) _ (by simp) HE1.out (fun b hb => by rcases hb with hb | hb; (have := HS.out b hb; have := HB1.out.size; simp; omega); (subst hb; simp))).mono ?_
  rintro e w2 ⟨rfl, hb2⟩
  obtain ⟨E, hE⟩ : ∃ E, E = firstE [⟨gt, gn, gs, rs⟩, ⟨ht, hn, ks, rs2⟩] := ⟨_, rfl⟩
  have HEq := Lib.hid hE
  have hE0 : ¬ E = 0 := by rw [hE]; exact HCk.out
  rw [← hE]
  have HB12 := Lib.hid (bthen HBa.out hb2 HBa.out.size)
  have HB2 := Lib.hid (bthen HB1.out HB12.out HB1.out.size)
  have HR2 := Lib.hid (HR1.out.below HB12.out HR1.out.lt)
  clear a0 a1 a2 a3 h0 h1 h2 h3 hb2 hE
  have r0 := HR2.out.frozen 0
  have r1 := HR2.out.frozen 1
  have r2 := HR2.out.frozen 2
  have r3 := HR2.out.frozen 3
  have q0 : w2.cell? ⟨w.heap.size + 1 + 1, 0, none⟩ = some (.int .i64 0) := HR2.out.cell 0
  have q1 : w2.cell? ⟨w.heap.size + 1 + 1, 1, none⟩ = some (.int .i64 0) := HR2.out.cell 1
  have q2 : w2.cell? ⟨w.heap.size + 1 + 1, 2, none⟩ = some (.int .i64 0) := HR2.out.cell 2
  have q3 : w2.cell? ⟨w.heap.size + 1 + 1, 3, none⟩ = some (.slice none 0 0) := HR2.out.cell 3
  have zR : w.heap.size + 1 + 1 < w2.heap.size := HR2.out.lt
  go_wp2_with fail
  generalize hwF : World.setCell _ _ _ = wF
  obtain ⟨hRF, kF⟩ := set4 HR2.out (.int .i64 0) (.int .i64 0) (.int .i64 0) (.slice none 0 0)
  rw [hwF] at hRF kF
  have u0 : wF.cell? ⟨w.heap.size + 1 + 1, 0, none⟩ = some (.int .i64 0) := hRF.cell 0
  have u1 : wF.cell? ⟨w.heap.size + 1 + 1, 1, none⟩ = some (.int .i64 0) := hRF.cell 1
  have u2 : wF.cell? ⟨w.heap.size + 1 + 1, 2, none⟩ = some (.int .i64 0) := hRF.cell 2
  have u3 : wF.cell? ⟨w.heap.size + 1 + 1, 3, none⟩ = some (.slice none 0 0) := hRF.cell 3
  clear hwF
  exact bodyPost_ret (v := .tuple #[.agg #[.int .i64 0, .int .i64 0, .int .i64 0, .slice none 0 0], .int .i64 E]) (by simp [results, Tryd.results19, go_sem, u0, u1, u2, u3]) rfl ⟨by rw [HEq.out], HB2.out.trans (kF.to_below (B := w.heap.size) (fun b (hb : b = w.heap.size + 1 + 1) => by omega) HB2.out.size)⟩


set_option maxRecDepth 100000 in
set_option maxHeartbeats 4000000 in
theorem putTerms_any (g h : Gram) (A B : Option Addr) (c d : Nat) (S : Nat → Prop) (w : World) (x : Int) (hck : firstE [g, h] = 0) (hte : ¬ h.terms = g.terms) (h64 : I64 g.terms ∧ I64 g.nons ∧ I64 g.start) (h64h : I64 h.terms ∧ I64 h.nons ∧ I64 h.start) (hlc : g.rules.length ≤ c) (hc : c ≤ 9223372036854775807) (hA : Els w S g.rules A) (hld : h.rules.length ≤ d) (hd : d ≤ 9223372036854775807) (hB : Els w S h.rules B) (hS : ∀ b, S b → b < w.heap.size) :
    Calls Tryd.prog 19 #[.agg #[.int .i64 g.terms, .int .i64 g.nons, .int .i64 g.start, .slice A g.rules.length c], .int .i64 x, .agg #[.int .i64 h.terms, .int .i64 h.nons, .int .i64 h.start, .slice B h.rules.length d]] w (RetZ 1 w) := by
  obtain ⟨gt, gn, gs, rs⟩ := g
  obtain ⟨ht, hn, ks, rs2⟩ := h
  dsimp only at *
  have HCk := Lib.hid hck
  have hte2 : ¬ gt = ht := fun e => hte e.symm
  clear hck
  obtain ⟨w1, hw1⟩ : ∃ w1 : World, w1 = (((w.alloc (.cells #[.int .i64 gt, .int .i64 gn, .int .i64 gs, .slice A rs.length c] 25)).alloc (.cells #[.int .i64 ht, .int .i64 hn, .int .i64 ks, .slice B rs2.length d] 25)).alloc (.cells #[.int .i64 0, .int .i64 0, .int .i64 0, .slice none 0 0] 25)) := ⟨_, rfl⟩
  have HW1 := Lib.hid hw1
  have hb1 : Below w.heap.size w w1 := by rw [hw1]; exact (((Below.refl _ _).alloc (Nat.le_refl _) _).alloc (by simp) _).alloc (by simp; omega) _
  have HG1 : Hid (Blk' w1 w.heap.size 25 #[.int .i64 gt, .int .i64 gn, .int .i64 gs, .slice A rs.length c]) := Lib.hid (by rw [hw1]; exact ((Blk'.new w _ _).alloc _).alloc _)
  have HH1 : Hid (Blk' w1 (w.heap.size + 1) 25 #[.int .i64 ht, .int .i64 hn, .int .i64 ks, .slice B rs2.length d]) := Lib.hid (by rw [hw1]; exact (Blk'.new' (g := w.heap.size + 1) _ _ _ (by simp)).alloc _)
  have HR1 : Hid (Blk' w1 (w.heap.size + 1 + 1) 25 #[.int .i64 0, .int .i64 0, .int .i64 0, .slice none 0 0]) := Lib.hid (by rw [hw1]; exact Blk'.new' _ _ _ (by simp))
  have HB1 := Lib.hid hb1
  have HA1 := Lib.hid (hA.belowB hb1 hS)
  have HBB1 := Lib.hid (hB.belowB hb1 hS)
  have HS : Hid (∀ b, S b → b < w1.heap.size) := Lib.hid (fun b hb => by have := hS b hb; have := hb1.size; omega)
  have a0 : w1.cell? ⟨w.heap.size, 0, none⟩ = some (.int .i64 gt) := HG1.out.cell 0
  have a1 : w1.cell? ⟨w.heap.size, 1, none⟩ = some (.int .i64 gn) := HG1.out.cell 1
  have a2 : w1.cell? ⟨w.heap.size, 2, none⟩ = some (.int .i64 gs) := HG1.out.cell 2
  have a3 : w1.cell? ⟨w.heap.size, 3, none⟩ = some (.slice A rs.length c) := HG1.out.cell 3
  have h0 : w1.cell? ⟨w.heap.size + 1, 0, none⟩ = some (.int .i64 ht) := HH1.out.cell 0
  have h1 : w1.cell? ⟨w.heap.size + 1, 1, none⟩ = some (.int .i64 hn) := HH1.out.cell 1
  have h2 : w1.cell? ⟨w.heap.size + 1, 2, none⟩ = some (.int .i64 ks) := HH1.out.cell 2
  have h3 : w1.cell? ⟨w.heap.size + 1, 3, none⟩ = some (.slice B rs2.length d) := HH1.out.cell 3
  have zG : w.heap.size < w1.heap.size := HG1.out.lt
  have zH : w.heap.size + 1 < w1.heap.size := HH1.out.lt
  have H64 := Lib.hid h64
  have H64h := Lib.hid h64h
  have HE1 := Lib.hid (els_gram2 (g := ⟨gt, gn, gs, rs⟩) (h := ⟨ht, hn, ks, rs2⟩) 25 HA1.out hlc hc H64.out HBB1.out hld hd H64h.out)
  have hba : Below w1.heap.size w1 (w1.alloc (.cells #[.int .i64 gt, .int .i64 gn, .int .i64 gs, .slice A rs.length c, .int .i64 ht, .int .i64 hn, .int .i64 ks, .slice B rs2.length d] 25)) := (Below.refl _ _).alloc (Nat.le_refl _) _
  have HBa := Lib.hid hba
  clear hw1 hb1 hA hB hS hba h64 h64h
  go_enter Tryd.func19, Tryd.ntmps19
  go_upto_region 1 with (fail)
  rw [← HW1.out]
  go_wp2_with fail
  refine (ccheckE_any [⟨gt, gn, gs, rs⟩, ⟨ht, hn, ks, rs2⟩] (some ⟨w1.heap.size, 0, none⟩) 2 (fun b => S b ∨ b = w1.heap.size) _ (by simp) HE1.out (fun b hb => by rcases hb with hb | hb; (have := HS.out b hb; have := HB1.out.size; simp; omega); (subst hb; simp))).mono ?_
  rintro e w2 ⟨rfl, hb2⟩
  rw [HCk.out]
  have HB12 := Lib.hid (bthen HBa.out hb2 HBa.out.size)
  have HB2 := Lib.hid (bthen HB1.out HB12.out HB1.out.size)
  have HR2 := Lib.hid (HR1.out.below HB12.out HR1.out.lt)
  have HG2 := Lib.hid (HG1.out.below HB12.out HG1.out.lt)
  have HH2 := Lib.hid (HH1.out.below HB12.out HH1.out.lt)
  clear a0 a1 a2 a3 h0 h1 h2 h3 hb2
  have b0 : w2.cell? ⟨w.heap.size, 0, none⟩ = some (.int .i64 gt) := HG2.out.cell 0
  have k0 : w2.cell? ⟨w.heap.size + 1, 0, none⟩ = some (.int .i64 ht) := HH2.out.cell 0
  have zG2 : w.heap.size < w2.heap.size := HG2.out.lt
  have zH2 : w.heap.size + 1 < w2.heap.size := HH2.out.lt
  have r0 := HR2.out.frozen 0
  have r1 := HR2.out.frozen 1
  have r2 := HR2.out.frozen 2
  have r3 := HR2.out.frozen 3
  have q0 : w2.cell? ⟨w.heap.size + 1 + 1, 0, none⟩ = some (.int .i64 0) := HR2.out.cell 0
  have q1 : w2.cell? ⟨w.heap.size + 1 + 1, 1, none⟩ = some (.int .i64 0) := HR2.out.cell 1
  have q2 : w2.cell? ⟨w.heap.size + 1 + 1, 2, none⟩ = some (.int .i64 0) := HR2.out.cell 2
  have q3 : w2.cell? ⟨w.heap.size + 1 + 1, 3, none⟩ = some (.slice none 0 0) := HR2.out.cell 3
  have zR : w.heap.size + 1 + 1 < w2.heap.size := HR2.out.lt
  go_wp2_with fail
  generalize hwF : World.setCell _ _ _ = wF
  obtain ⟨hRF, kF⟩ := set4 HR2.out (.int .i64 0) (.int .i64 0) (.int .i64 0) (.slice none 0 0)
  rw [hwF] at hRF kF
  have u0 : wF.cell? ⟨w.heap.size + 1 + 1, 0, none⟩ = some (.int .i64 0) := hRF.cell 0
  have u1 : wF.cell? ⟨w.heap.size + 1 + 1, 1, none⟩ = some (.int .i64 0) := hRF.cell 1
  have u2 : wF.cell? ⟨w.heap.size + 1 + 1, 2, none⟩ = some (.int .i64 0) := hRF.cell 2
  have u3 : wF.cell? ⟨w.heap.size + 1 + 1, 3, none⟩ = some (.slice none 0 0) := hRF.cell 3
  clear hwF
  exact bodyPost_ret (v := .tuple #[.agg #[.int .i64 0, .int .i64 0, .int .i64 0, .slice none 0 0], .int .i64 1]) (by simp [results, Tryd.results19, go_sem, u0, u1, u2, u3]) rfl ⟨rfl, HB2.out.trans (kF.to_below (B := w.heap.size) (fun b (hb : b = w.heap.size + 1 + 1) => by omega) HB2.out.size)⟩


set_option maxRecDepth 100000 in
set_option maxHeartbeats 4000000 in
theorem putLow_any (g h : Gram) (A B : Option Addr) (c d : Nat) (S : Nat → Prop) (w : World) (x : Int) (hck : firstE [g, h] = 0) (hte : h.terms = g.terms) (hx : x < 0) (h64 : I64 g.terms ∧ I64 g.nons ∧ I64 g.start) (h64h : I64 h.terms ∧ I64 h.nons ∧ I64 h.start) (hlc : g.rules.length ≤ c) (hc : c ≤ 9223372036854775807) (hA : Els w S g.rules A) (hld : h.rules.length ≤ d) (hd : d ≤ 9223372036854775807) (hB : Els w S h.rules B) (hS : ∀ b, S b → b < w.heap.size) :
    Calls Tryd.prog 19 #[.agg #[.int .i64 g.terms, .int .i64 g.nons, .int .i64 g.start, .slice A g.rules.length c], .int .i64 x, .agg #[.int .i64 h.terms, .int .i64 h.nons, .int .i64 h.start, .slice B h.rules.length d]] w (RetZ 1 w) := by
  obtain ⟨gt, gn, gs, rs⟩ := g
  obtain ⟨ht, hn, ks, rs2⟩ := h
  dsimp only at *
  have HCk := Lib.hid hck
  have hte2 : gt = ht := hte.symm
  subst hte2
  clear hte
  clear hck
  obtain ⟨w1, hw1⟩ : ∃ w1 : World, w1 = (((w.alloc (.cells #[.int .i64 gt, .int .i64 gn, .int .i64 gs, .slice A rs.length c] 25)).alloc (.cells #[.int .i64 gt, .int .i64 hn, .int .i64 ks, .slice B rs2.length d] 25)).alloc (.cells #[.int .i64 0, .int .i64 0, .int .i64 0, .slice none 0 0] 25)) := ⟨_, rfl⟩
  have HW1 := Lib.hid hw1
  have hb1 : Below w.heap.size w w1 := by rw [hw1]; exact (((Below.refl _ _).alloc (Nat.le_refl _) _).alloc (by simp) _).alloc (by simp; omega) _
  have HG1 : Hid (Blk' w1 w.heap.size 25 #[.int .i64 gt, .int .i64 gn, .int .i64 gs, .slice A rs.length c]) := Lib.hid (by rw [hw1]; exact ((Blk'.new w _ _).alloc _).alloc _)
  have HH1 : Hid (Blk' w1 (w.heap.size + 1) 25 #[.int .i64 gt, .int .i64 hn, .int .i64 ks, .slice B rs2.length d]) := Lib.hid (by rw [hw1]; exact (Blk'.new' (g := w.heap.size + 1) _ _ _ (by simp)).alloc _)
  have HR1 : Hid (Blk' w1 (w.heap.size + 1 + 1) 25 #[.int .i64 0, .int .i64 0, .int .i64 0, .slice none 0 0]) := Lib.hid (by rw [hw1]; exact Blk'.new' _ _ _ (by simp))
  have HB1 := Lib.hid hb1
  have HA1 := Lib.hid (hA.belowB hb1 hS)
  have HBB1 := Lib.hid (hB.belowB hb1 hS)
  have HS : Hid (∀ b, S b → b < w1.heap.size) := Lib.hid (fun b hb => by have := hS b hb; have := hb1.size; omega)
  have a0 : w1.cell? ⟨w.heap.size, 0, none⟩ = some (.int .i64 gt) := HG1.out.cell 0
  have a1 : w1.cell? ⟨w.heap.size, 1, none⟩ = some (.int .i64 gn) := HG1.out.cell 1
  have a2 : w1.cell? ⟨w.heap.size, 2, none⟩ = some (.int .i64 gs) := HG1.out.cell 2
  have a3 : w1.cell? ⟨w.heap.size, 3, none⟩ = some (.slice A rs.length c) := HG1.out.cell 3
  have h0 : w1.cell? ⟨w.heap.size + 1, 0, none⟩ = some (.int .i64 gt) := HH1.out.cell 0
  have h1 : w1.cell? ⟨w.heap.size + 1, 1, none⟩ = some (.int .i64 hn) := HH1.out.cell 1
  have h2 : w1.cell? ⟨w.heap.size + 1, 2, none⟩ = some (.int .i64 ks) := HH1.out.cell 2
  have h3 : w1.cell? ⟨w.heap.size + 1, 3, none⟩ = some (.slice B rs2.length d) := HH1.out.cell 3
  have zG : w.heap.size < w1.heap.size := HG1.out.lt
  have zH : w.heap.size + 1 < w1.heap.size := HH1.out.lt
  have H64 := Lib.hid h64
  have H64h := Lib.hid h64h
  have HE1 := Lib.hid (els_gram2 (g := ⟨gt, gn, gs, rs⟩) (h := ⟨gt, hn, ks, rs2⟩) 25 HA1.out hlc hc H64.out HBB1.out hld hd H64h.out)
  have hba : Below w1.heap.size w1 (w1.alloc (.cells #[.int .i64 gt, .int .i64 gn, .int .i64 gs, .slice A rs.length c, .int .i64 gt, .int .i64 hn, .int .i64 ks, .slice B rs2.length d] 25)) := (Below.refl _ _).alloc (Nat.le_refl _) _
  have HBa := Lib.hid hba
  clear hw1 hb1 hA hB hS hba h64 h64h
  go_enter Tryd.func19, Tryd.ntmps19
  go_upto_region 1 with (fail)
  rw [← HW1.out]
  go_wp2_with fail
  refine (ccheckE_any [⟨gt, gn, gs, rs⟩, ⟨gt, hn, ks, rs2⟩] (some ⟨w1.heap.size, 0, none⟩) 2 (fun b => S b ∨ b = w1.heap.size) _ (by simp) HE1.out (fun b hb => by rcases hb with hb | hb; (have := HS.out b hb; have := HB1.out.size; simp; omega); (subst hb; simp))).mono ?_
  rintro e w2 ⟨rfl, hb2⟩
  rw [HCk.out]
  have HB12 := Lib.hid (bthen HBa.out hb2 HBa.out.size)
  have HB2 := Lib.hid (bthen HB1.out HB12.out HB1.out.size)
  have HR2 := Lib.hid (HR1.out.below HB12.out HR1.out.lt)
  have HG2 := Lib.hid (HG1.out.below HB12.out HG1.out.lt)
  have HH2 := Lib.hid (HH1.out.below HB12.out HH1.out.lt)
  clear a0 a1 a2 a3 h0 h1 h2 h3 hb2
  have b0 : w2.cell? ⟨w.heap.size, 0, none⟩ = some (.int .i64 gt) := HG2.out.cell 0
  have k0 : w2.cell? ⟨w.heap.size + 1, 0, none⟩ = some (.int .i64 gt) := HH2.out.cell 0
  have zG2 : w.heap.size < w2.heap.size := HG2.out.lt
  have zH2 : w.heap.size + 1 < w2.heap.size := HH2.out.lt
  have r0 := HR2.out.frozen 0
  have r1 := HR2.out.frozen 1
  have r2 := HR2.out.frozen 2
  have r3 := HR2.out.frozen 3
  have q0 : w2.cell? ⟨w.heap.size + 1 + 1, 0, none⟩ = some (.int .i64 0) := HR2.out.cell 0
  have q1 : w2.cell? ⟨w.heap.size + 1 + 1, 1, none⟩ = some (.int .i64 0) := HR2.out.cell 1
  have q2 : w2.cell? ⟨w.heap.size + 1 + 1, 2, none⟩ = some (.int .i64 0) := HR2.out.cell 2
  have q3 : w2.cell? ⟨w.heap.size + 1 + 1, 3, none⟩ = some (.slice none 0 0) := HR2.out.cell 3
  have zR : w.heap.size + 1 + 1 < w2.heap.size := HR2.out.lt
  go_wp2_with fail
  generalize hwF : World.setCell _ _ _ = wF
  obtain ⟨hRF, kF⟩ := set4 HR2.out (.int .i64 0) (.int .i64 0) (.int .i64 0) (.slice none 0 0)
  rw [hwF] at hRF kF
  have u0 : wF.cell? ⟨w.heap.size + 1 + 1, 0, none⟩ = some (.int .i64 0) := hRF.cell 0
  have u1 : wF.cell? ⟨w.heap.size + 1 + 1, 1, none⟩ = some (.int .i64 0) := hRF.cell 1
  have u2 : wF.cell? ⟨w.heap.size + 1 + 1, 2, none⟩ = some (.int .i64 0) := hRF.cell 2
  have u3 : wF.cell? ⟨w.heap.size + 1 + 1, 3, none⟩ = some (.slice none 0 0) := hRF.cell 3
  clear hwF
  exact bodyPost_ret (v := .tuple #[.agg #[.int .i64 0, .int .i64 0, .int .i64 0, .slice none 0 0], .int .i64 1]) (by simp [results, Tryd.results19, go_sem, u0, u1, u2, u3]) rfl ⟨rfl, HB2.out.trans (kF.to_below (B := w.heap.size) (fun b (hb : b = w.heap.size + 1 + 1) => by omega) HB2.out.size)⟩


set_option maxRecDepth 100000 in
set_option maxHeartbeats 4000000 in
theorem putHigh_any (g h : Gram) (A B : Option Addr) (c d : Nat) (S : Nat → Prop) (w : World) (x : Int) (hck : firstE [g, h] = 0) (hte : h.terms = g.terms) (hx : g.terms ≤ x) (hx0 : ¬ x < 0) (h64 : I64 g.terms ∧ I64 g.nons ∧ I64 g.start) (h64h : I64 h.terms ∧ I64 h.nons ∧ I64 h.start) (hlc : g.rules.length ≤ c) (hc : c ≤ 9223372036854775807) (hA : Els w S g.rules A) (hld : h.rules.length ≤ d) (hd : d ≤ 9223372036854775807) (hB : Els w S h.rules B) (hS : ∀ b, S b → b < w.heap.size) :
    Calls Tryd.prog 19 #[.agg #[.int .i64 g.terms, .int .i64 g.nons, .int .i64 g.start, .slice A g.rules.length c], .int .i64 x, .agg #[.int .i64 h.terms, .int .i64 h.nons, .int .i64 h.start, .slice B h.rules.length d]] w (RetZ 1 w) := by
  obtain ⟨gt, gn, gs, rs⟩ := g
  obtain ⟨ht, hn, ks, rs2⟩ := h
  dsimp only at *
  have HCk := Lib.hid hck
  have hte2 : gt = ht := hte.symm
  subst hte2
  clear hte
  clear hck
  obtain ⟨w1, hw1⟩ : ∃ w1 : World, w1 = (((w.alloc (.cells #[.int .i64 gt, .int .i64 gn, .int .i64 gs, .slice A rs.length c] 25)).alloc (.cells #[.int .i64 gt, .int .i64 hn, .int .i64 ks, .slice B rs2.length d] 25)).alloc (.cells #[.int .i64 0, .int .i64 0, .int .i64 0, .slice none 0 0] 25)) := ⟨_, rfl⟩
  have HW1 := Lib.hid hw1
  have hb1 : Below w.heap.size w w1 := by rw [hw1]; exact (((Below.refl _ _).alloc (Nat.le_refl _) _).alloc (by simp) _).alloc (by simp; omega) _
  have HG1 : Hid (Blk' w1 w.heap.size 25 #[.int .i64 gt, .int .i64 gn, .int .i64 gs, .slice A rs.length c]) := Lib.hid (by rw [hw1]; exact ((Blk'.new w _ _).alloc _).alloc _)
  have HH1 : Hid (Blk' w1 (w.heap.size + 1) 25 #[.int .i64 gt, .int .i64 hn, .int .i64 ks, .slice B rs2.length d]) := Lib.hid (by rw [hw1]; exact (Blk'.new' (g := w.heap.size + 1) _ _ _ (by simp)).alloc _)
  have HR1 : Hid (Blk' w1 (w.heap.size + 1 + 1) 25 #[.int .i64 0, .int .i64 0, .int .i64 0, .slice none 0 0]) := Lib.hid (by rw [hw1]; exact Blk'.new' _ _ _ (by simp))
  have HB1 := Lib.hid hb1
  have HA1 := Lib.hid (hA.belowB hb1 hS)
  have HBB1 := Lib.hid (hB.belowB hb1 hS)
  have HS : Hid (∀ b, S b → b < w1.heap.size) := Lib.hid (fun b hb => by have := hS b hb; have := hb1.size; omega)
  have a0 : w1.cell? ⟨w.heap.size, 0, none⟩ = some (.int .i64 gt) := HG1.out.cell 0
  have a1 : w1.cell? ⟨w.heap.size, 1, none⟩ = some (.int .i64 gn) := HG1.out.cell 1
  have a2 : w1.cell? ⟨w.heap.size, 2, none⟩ = some (.int .i64 gs) := HG1.out.cell 2
  have a3 : w1.cell? ⟨w.heap.size, 3, none⟩ = some (.slice A rs.length c) := HG1.out.cell 3
  have h0 : w1.cell? ⟨w.heap.size + 1, 0, none⟩ = some (.int .i64 gt) := HH1.out.cell 0
  have h1 : w1.cell? ⟨w.heap.size + 1, 1, none⟩ = some (.int .i64 hn) := HH1.out.cell 1
  have h2 : w1.cell? ⟨w.heap.size + 1, 2, none⟩ = some (.int .i64 ks) := HH1.out.cell 2
  have h3 : w1.cell? ⟨w.heap.size + 1, 3, none⟩ = some (.slice B rs2.length d) := HH1.out.cell 3
  have zG : w.heap.size < w1.heap.size := HG1.out.lt
  have zH : w.heap.size + 1 < w1.heap.size := HH1.out.lt
  have H64 := Lib.hid h64
  have H64h := Lib.hid h64h
  have HE1 := Lib.hid (els_gram2 (g := ⟨gt, gn, gs, rs⟩) (h := ⟨gt, hn, ks, rs2⟩) 25 HA1.out hlc hc H64.out HBB1.out hld hd H64h.out)
  have hba : Below w1.heap.size w1 (w1.alloc (.cells #[.int .i64 gt, .int .i64 gn, .int .i64 gs, .slice A rs.length c, .int .i64 gt, .int .i64 hn, .int .i64 ks, .slice B rs2.length d] 25)) := (Below.refl _ _).alloc (Nat.le_refl _) _
  have HBa := Lib.hid hba
  clear hw1 hb1 hA hB hS hba h64 h64h
  go_enter Tryd.func19, Tryd.ntmps19
  go_upto_region 1 with (fail)
  rw [← HW1.out]
  go_wp2_with fail
  refine (ccheckE_any [⟨gt, gn, gs, rs⟩, ⟨gt, hn, ks, rs2⟩] (some ⟨w1.heap.size, 0, none⟩) 2 (fun b => S b ∨ b = w1.heap.size) _ (by simp) HE1.out (fun b hb => by rcases hb with hb | hb; (have := HS.out b hb; have := HB1.out.size; simp; omega); (subst hb; simp))).mono ?_
  rintro e w2 ⟨rfl, hb2⟩
  rw [HCk.out]
  have HB12 := Lib.hid (bthen HBa.out hb2 HBa.out.size)
  have HB2 := Lib.hid (bthen HB1.out HB12.out HB1.out.size)
  have HR2 := Lib.hid (HR1.out.below HB12.out HR1.out.lt)
  have HG2 := Lib.hid (HG1.out.below HB12.out HG1.out.lt)
  have HH2 := Lib.hid (HH1.out.below HB12.out HH1.out.lt)
  clear a0 a1 a2 a3 h0 h1 h2 h3 hb2
  have b0 : w2.cell? ⟨w.heap.size, 0, none⟩ = some (.int .i64 gt) := HG2.out.cell 0
  have k0 : w2.cell? ⟨w.heap.size + 1, 0, none⟩ = some (.int .i64 gt) := HH2.out.cell 0
  have zG2 : w.heap.size < w2.heap.size := HG2.out.lt
  have zH2 : w.heap.size + 1 < w2.heap.size := HH2.out.lt
  have r0 := HR2.out.frozen 0
  have r1 := HR2.out.frozen 1
  have r2 := HR2.out.frozen 2
  have r3 := HR2.out.frozen 3
  have q0 : w2.cell? ⟨w.heap.size + 1 + 1, 0, none⟩ = some (.int .i64 0) := HR2.out.cell 0
  have q1 : w2.cell? ⟨w.heap.size + 1 + 1, 1, none⟩ = some (.int .i64 0) := HR2.out.cell 1
  have q2 : w2.cell? ⟨w.heap.size + 1 + 1, 2, none⟩ = some (.int .i64 0) := HR2.out.cell 2
  have q3 : w2.cell? ⟨w.heap.size + 1 + 1, 3, none⟩ = some (.slice none 0 0) := HR2.out.cell 3
  have zR : w.heap.size + 1 + 1 < w2.heap.size := HR2.out.lt
  go_wp2_with fail
  generalize hwF : World.setCell _ _ _ = wF
  obtain ⟨hRF, kF⟩ := set4 HR2.out (.int .i64 0) (.int .i64 0) (.int .i64 0) (.slice none 0 0)
  rw [hwF] at hRF kF
  have u0 : wF.cell? ⟨w.heap.size + 1 + 1, 0, none⟩ = some (.int .i64 0) := hRF.cell 0
  have u1 : wF.cell? ⟨w.heap.size + 1 + 1, 1, none⟩ = some (.int .i64 0) := hRF.cell 1
  have u2 : wF.cell? ⟨w.heap.size + 1 + 1, 2, none⟩ = some (.int .i64 0) := hRF.cell 2
  have u3 : wF.cell? ⟨w.heap.size + 1 + 1, 3, none⟩ = some (.slice none 0 0) := hRF.cell 3
  clear hwF
  exact bodyPost_ret (v := .tuple #[.agg #[.int .i64 0, .int .i64 0, .int .i64 0, .slice none 0 0], .int .i64 1]) (by simp [results, Tryd.results19, go_sem, u0, u1, u2, u3]) rfl ⟨rfl, HB2.out.trans (kF.to_below (B := w.heap.size) (fun b (hb : b = w.heap.size + 1 + 1) => by omega) HB2.out.size)⟩


def putRR (g h : Gram) (x : Int) : Gram × Int := if firstE [g, h] = 0 then (if h.terms = g.terms ∧ 0 ≤ x ∧ x < g.terms then mkR (putG g x h) else (zeroG, 1)) else (zeroG, firstE [g, h])
theorem firstE_both {g h : Gram} (hf : firstE [g, h] = 0) : checkI g = 0 ∧ checkI h = 0 := by
  by_cases h1 : checkI g = 0
  · by_cases h2 : checkI h = 0
    · exact ⟨h1, h2⟩
    · unfold firstE firstE at hf
      rw [if_neg (by simpa using h1), if_pos h2] at hf
      exact absurd hf h2
  · unfold firstE at hf
    rw [if_pos h1] at hf
    exact absurd hf h1
theorem putP_any (g h : Gram) (x : Int) (A B : Option Addr) (c d : Nat) (S : Nat → Prop) (w : World) (h64 : I64 g.terms ∧ I64 g.nons ∧ I64 g.start) (h64h : I64 h.terms ∧ I64 h.nons ∧ I64 h.start) (hlc : g.rules.length ≤ c) (hc : c ≤ 9223372036854775807) (hA : Els w S g.rules A) (hld : h.rules.length ≤ d) (hd : d ≤ 9223372036854775807) (hB : Els w S h.rules B) (hS : ∀ b, S b → b < w.heap.size) :
    Calls Tryd.prog 19 #[.agg #[.int .i64 g.terms, .int .i64 g.nons, .int .i64 g.start, .slice A g.rules.length c], .int .i64 x, .agg #[.int .i64 h.terms, .int .i64 h.nons, .int .i64 h.start, .slice B h.rules.length d]] w (RetP (putRR g h x) w) := by
  unfold putRR
  by_cases hck : firstE [g, h] = 0
  · rw [if_pos hck]
    obtain ⟨k1, k2⟩ := firstE_both hck
    by_cases hte : h.terms = g.terms
    · by_cases hx : x < 0
      · rw [if_neg (by omega)]
        exact (putLow_any g h A B c d S w x hck hte hx h64 h64h hlc hc hA hld hd hB hS).mono fun _ _ h => h.p
      · by_cases hx2 : g.terms ≤ x
        · rw [if_neg (by omega)]
          exact (putHigh_any g h A B c d S w x hck hte hx2 hx h64 h64h hlc hc hA hld hd hB hS).mono fun _ _ h => h.p
        · rw [if_pos ⟨hte, by omega, by omega⟩]
          by_cases hn : g.nons + h.nons ≤ 10
          · exact (putOk_any g h x A B c d S w k1 k2 hte ⟨by omega, by omega⟩ hn hlc hc hA hld hd hB hS).mono fun _ _ h => h.p
          · exact (putBig_any g h x A B c d S w k1 k2 hte ⟨by omega, by omega⟩ (by omega) hlc hc hA hld hd hB hS).mono fun _ _ h => h.p
    · rw [if_neg (fun e => hte e.1)]
      exact (putTerms_any g h A B c d S w x hck hte h64 h64h hlc hc hA hld hd hB hS).mono fun _ _ h => h.p
  · rw [if_neg hck]
    exact (putBad_any g h A B c d S w x hck h64 h64h hlc hc hA hld hd hB hS).mono fun _ _ h => h.p
end Go.Proofs.YtaidadjekfcacaaDoor
