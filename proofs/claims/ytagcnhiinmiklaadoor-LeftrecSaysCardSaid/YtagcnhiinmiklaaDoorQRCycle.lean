/- Contract: parlref2.CycleOf. -/
import Derived.Test.YtagcnhiinmiklaaDoorQRCycStep
import Derived.Test.YtagcnhiinmiklaaDoorQp2
import Derived.Test.YtagcnhiinmiklaaDoorQCycFind
import Derived.Test.YtagcnhiinmiklaaDoorQp1
import Derived.Deep.RegionHeld3
import Derived.Deep.LoopGhost
namespace Go.Proofs.YtagcnhiinmiklaaDoor
open Go.RowKit
set_option linter.unusedVariables false

theorem stepOk_next {g : Gram} {n : Nat} (hp : PassIn g n) {x y : Int} {qx q' : Rule} {k t : Nat} {al : List Int} (hx : RuleAt g x qx) (hal : FiltIs (AtP g qx (k + 1) t) n al) (hy : RuleAt g y q') : StepOk g al k t q' ↔ NextOk g x y k t := by
  have hq' : q' ∈ g.rules := List.mem_of_getElem? hy.2
  have hl := hp.left q' hq'
  constructor
  · rintro ⟨h1, h2⟩
    obtain ⟨j, hj, e, h3, h4⟩ := (hal.mem n al _).1 h1
    exact ⟨qx, q', hx, hy, by rw [e]; exact h3, h2⟩
  · rintro ⟨qa, qb, ha, hb, h1, h2⟩
    have e1 : qa = qx := by have h := ha.2; rw [hx.2] at h; injection h with h; exact h.symm
    have e2 : qb = q' := by have h := hb.2; rw [hy.2] at h; injection h with h; exact h.symm
    subst e1; subst e2
    refine ⟨(hal.mem n al _).2 ⟨qb.left.toNat, by omega, by omega, by rwa [Int.toNat_of_nonneg hl.1], ?_⟩, h2⟩
    exact tabR_stp k qb t hq' hl.1 (fun q hq c hc => (hp.tos q hq c hc).1) h2
theorem stepOk_ex {g : Gram} {n : Nat} (hp : PassIn g n) {x : Int} {qx : Rule} {k t : Nat} {al : List Int} (hx : RuleAt g x qx) (hal : FiltIs (AtP g qx (k + 1) t) n al) (h : TabR g (k + 1) qx t) : ∃ q ∈ g.rules, StepOk g al k t q := by
  obtain ⟨c, h1, q', hq', h2, h3⟩ := h
  obtain ⟨i, hi⟩ := List.mem_iff_getElem?.1 hq'
  exact ⟨q', hq', (stepOk_next (y := (i : Int)) hp hx hal ⟨by omega, by simpa using hi⟩).2 ⟨qx, q', hx, ⟨by omega, by simpa using hi⟩, by rw [h2]; exact h1, h3⟩⟩
def CoO (g : Gram) (n : Nat) (w2 : World) (v : Value) (wr : World) : Prop :=
  ∃ k : Nat, 1 ≤ k ∧ k ≤ n + 1 ∧ v = .int .i64 k ∧ (∀ k', 1 ≤ k' → k' < k → ∀ q' ∈ g.rules, ¬ TabR g (k' - 1) q' q'.left.toNat) ∧ Below w2.heap.size w2 wr
def CoI (g : Gram) (k : Nat) (w2 : World) (i : Value) (wr : World) : Prop :=
  ∃ j : Nat, j ≤ g.rules.length ∧ i = .int .i64 j ∧ (∀ p q, p < j → g.rules[p]? = some q → ¬ TabR g (k - 1) q q.left.toNat) ∧ Below w2.heap.size w2 wr
def CoJ (P : Nat → Prop) (n base : Nat) (wx : World) (v i : Value) (wr : World) : Prop :=
  ∃ (cc : Nat) (l : List Int), cc ≤ n ∧ i = .int .i64 cc ∧ FiltIs P cc l ∧ Own wr (fun _ => False) base 3 v l ∧ Below base wx wr
/-- On the way of a cycle: the rules so far, where one is. -/
def CoL (g : Gram) (n k i t base : Nat) (wx : World) (va vo vl : Value) (wr : World) : Prop :=
  ∃ (p : Nat) (l al : List Int) (x : Int) (qx : Rule) (A : Option Addr) (ca : Nat), p + 1 ≤ k ∧ vl = .int .i64 ((k - 1 - p : Nat) : Int) ∧ CycTo g k i t p l ∧ l.length ≤ k ∧ l[p]? = some x ∧ RuleAt g x qx ∧ TabR g (k - 1 - p) qx t ∧ FiltIs (AtP g qx (k - 1 - p) t) n al ∧
    Own wr (fun _ => False) base 3 vo l ∧ va = .slice A al.length ca ∧ Els wr (fun b => b < wr.heap.size ∧ vo.ownBlock ≠ some b) al A ∧ Below base wx wr
def RetRC (g : Gram) (n : Nat) (w : World) (e : Ending) (w' : World) : Prop :=
  (e = .returned (.tuple #[.slice none 0 0, .bool false]) ∧ NoCyc g n ∧ Below w.heap.size w w') ∨ (∃ (k i : Nat) (q : Rule) (l : List Int) (v : Value), e = .returned (.tuple #[v, .bool true]) ∧ CycF g n k i q l ∧ Own w' (fun _ => False) w.heap.size 3 v l ∧ Below w.heap.size w w')

set_option maxRecDepth 100000 in
set_option maxHeartbeats 16000000 in
theorem rcycle_any (g : Gram) (m n : Nat) (A : Option Addr) (c : Nat) (S : Nat → Prop) (w : World) (L : List Int) (hgt : g.terms = (m : Int)) (hgn : g.nons = (n : Int)) (hck : checkI g = 0) (hlc : g.rules.length ≤ c) (hc : c ≤ 9223372036854775807) (hA : Els w S g.rules A) (hS : ∀ b, S b → b < w.heap.size) (hL : LFix g n L) :
    Calls Tryd.prog 18 #[.agg #[.int .i64 g.terms, .int .i64 g.nons, .int .i64 g.start, .slice A g.rules.length c]] w (RetRC g n w) := by
  have hv := validG_of hck
  have hri := hv.rulesIn hgn
  have hpi := passIn_of hv hgn
  obtain ⟨gt, gn, gs, rs⟩ := g
  dsimp only at *
  subst hgt; subst hgn
  have hn : 1 ≤ n ∧ n ≤ 10 := by have := hv.n1; have := hv.n10; dsimp only at *; omega
  have hrl : rs.length ≤ 32 := hv.len
  have hrr4 : ∀ q ∈ rs, q.right.length ≤ 4 := fun q hq => (hv.rules q hq).2.2.1
  have HN := Lib.hid hn
  have HRR := Lib.hid hrr4
  have HRI := Lib.hid hri
  have HPI := Lib.hid hpi
  have HC := Lib.hid hck
  have HA := Lib.hid hA
  have HS := Lib.hid hS
  have HL := Lib.hid hL
  have hnl : (nullB L).length = n := by unfold nullB; rw [List.length_map]; exact hL.shape.len
  have HNl := Lib.hid hnl
  have HEq : Hid (∀ q ∈ rs, ∀ l : List Sym, (∀ s ∈ l, s ∈ q.right) → (emptyB (nullB L) l = true ↔ Nuls ⟨(m : Int), (n : Int), gs, rs⟩ l)) := Lib.hid (fun q hq l hl => by
    rw [emptyB_iff]
    constructor
    · intro h s hs
      have h1 := h s hs
      exact ⟨h1.1, (hL.nullB hri (((hri q hq).2.2.2 s (hl s hs)).2 h1.1)).1 h1.2⟩
    · intro h s hs
      have h1 := h s hs
      exact ⟨h1.1, (hL.nullB hri (((hri q hq).2.2.2 s (hl s hs)).2 h1.1)).2 h1.2⟩)
  have hn10 : (n : Int) ≤ 10 := by omega
  have hn1 := hn.1
  have hnb := hn.2
  obtain ⟨w0, hw0⟩ : ∃ w0 : World, w0 = w.alloc (.cells #[.int .i64 (m : Int), .int .i64 (n : Int), .int .i64 gs, .slice A rs.length c] 24) := ⟨_, rfl⟩
  have hba : Below w.heap.size w w0 := by rw [hw0]; exact (Below.refl _ _).alloc (Nat.le_refl _) _
  have HBa := Lib.hid hba
  have HGa : Hid (Blk' w0 w.heap.size 24 #[.int .i64 (m : Int), .int .i64 (n : Int), .int .i64 gs, .slice A rs.length c]) := Lib.hid (by rw [hw0]; exact Blk'.new w _ _)
  have HW0 := Lib.hid hw0
  have g0 : w0.cell? ⟨w.heap.size, 0, none⟩ = some (.int .i64 (m : Int)) := HGa.out.cell 0
  have g1 : w0.cell? ⟨w.heap.size, 1, none⟩ = some (.int .i64 (n : Int)) := HGa.out.cell 1
  have g2 : w0.cell? ⟨w.heap.size, 2, none⟩ = some (.int .i64 gs) := HGa.out.cell 2
  have g3 : w0.cell? ⟨w.heap.size, 3, none⟩ = some (.slice A rs.length c) := HGa.out.cell 3
  have zG := HGa.out.lt
  clear hw0 hba hA hS hri hpi hv hnl hL hrr4 hn hck
  go_enter Tryd.func18, Tryd.ntmps18
  go_upto_region 1 with (fail)
  rw [← HW0.out]
  go_region_held3 (fun w' => w'.cell? ⟨w.heap.size, 0, none⟩ = some (.int .i64 (m : Int)) ∧ w'.cell? ⟨w.heap.size, 1, none⟩ = some (.int .i64 (n : Int)) ∧ w'.cell? ⟨w.heap.size, 2, none⟩ = some (.int .i64 gs) ∧ w'.cell? ⟨w.heap.size, 3, none⟩ = some (.slice A rs.length c)) (go_keep)
    (first
    | (go_at_call 33
       refine (rnulls_any ⟨(m : Int), (n : Int), gs, rs⟩ n A c S _ L rfl HN.out hlc hc (HA.out.below HBa.out.drew) (fun b hb => by have := HS.out b hb; have := HBa.out.size; simp; omega) (by show rs.length ≤ 1000; omega) HRI.out HL.out).mono ?_
       rintro e w1 ⟨nb, rfl, hNb, hNge, hb1⟩
       have H1 := Lib.hid (((Below.refl w0.heap.size w0).drew).trans hb1)
       have HN1 := Lib.hid (And.intro hNb hNge)
       have a0 := (H1.out.cell (p := ⟨w.heap.size, 0, none⟩) zG).trans g0
       have a1 := (H1.out.cell (p := ⟨w.heap.size, 1, none⟩) zG).trans g1
       have a2 := (H1.out.cell (p := ⟨w.heap.size, 2, none⟩) zG).trans g2
       have a3 := (H1.out.cell (p := ⟨w.heap.size, 3, none⟩) zG).trans g3
       clear hNb hNge hb1)
    | (go_at_call 34
       refine (comes_any ⟨(m : Int), (n : Int), gs, rs⟩ m n A c S _ L rfl rfl HC.out hlc hc (HA.out.below (bthen HBa.out H1.out HBa.out.size)) (fun b hb => by have := HS.out b hb; have := HBa.out.size; have := H1.out.size; omega) HL.out).mono ?_
       rintro e w2 ⟨vT, T, rfl, hTl, hT, hownT, hb2⟩
       obtain ⟨AT, cT, rfl, hcT1, hcT2, _⟩ := hownT.form
       have H2 := Lib.hid (bthen H1.out hb2 H1.out.size)
       have HT2 := Lib.hid (And.intro hTl (And.intro hT hownT.vl.els.2.2.2))
       have HN2 := Lib.hid (HN1.out.1.below hb2 HN1.out.1.lt)
       have b0 := (H2.out.cell (p := ⟨w.heap.size, 0, none⟩) zG).trans g0
       have b1 := (H2.out.cell (p := ⟨w.heap.size, 1, none⟩) zG).trans g1
       have b2 := (H2.out.cell (p := ⟨w.heap.size, 2, none⟩) zG).trans g2
       have b3 := (H2.out.cell (p := ⟨w.heap.size, 3, none⟩) zG).trans g3
       clear hTl hT hownT hb2))
  have HB2 := Lib.hid (bthen HBa.out H2.out HBa.out.size)
  have HG2 := Lib.hid (HGa.out.below H2.out HGa.out.lt)
  have HTl := Lib.hid HT2.out.1
  have HT := Lib.hid HT2.out.2.1
  have HTE : Hid (Els w2 (fun b => b < w2.heap.size) T AT) := Lib.hid (HT2.out.2.2.keep (fun _ _ _ => rfl) (fun _ h => h.2))
  have hrl9 : rs.length ≤ 9223372036854775807 := by omega
  have hzw2 : w.heap.size < w2.heap.size := HG2.out.lt
  have znb2 : nb < w2.heap.size := HN2.out.lt
  clear a0 a1 a2 a3 b0 b2 b3 g0 g1 g2 g3 HN1 H1 H2 HBa HGa HW0 HT2
  go_wp2_with fail
  clear b1
  go_loopw [6] (fun v wr => CoO ⟨(m : Int), (n : Int), gs, rs⟩ n w2 v wr) (fun v _ => n + 1 - (intOf v).toNat)
  case atStart => exact ⟨1, Nat.le_refl _, by omega, rfl, (fun k' h1 h2 => by omega), Below.refl _ _⟩
  case round =>
    obtain ⟨wo, hwo⟩ : ∃ wo : World, wo = wr := ⟨_, rfl⟩
    subst hwo
    obtain ⟨k, hk1, hkn1, rfl, hno, hb⟩ := hrel
    have HNo := Lib.hid hno
    have HBo := Lib.hid hb
    have HGo := Lib.hid (HG2.out.below hb HG2.out.lt)
    have a1 : wo.cell? ⟨w.heap.size, 1, none⟩ = some (.int .i64 (n : Int)) := HGo.out.cell 1
    have a3 : wo.cell? ⟨w.heap.size, 3, none⟩ = some (.slice A rs.length c) := HGo.out.cell 3
    have zGo : w.heap.size < wo.heap.size := HGo.out.lt
    clear hno hb
    by_cases hkn : k ≤ n
    · have hkn9 : (k : Int) ≤ (n : Int) := by omega
      go_wp2_with fail
      clear a1 a3
      go_loopw [28] (fun i wr => CoI ⟨(m : Int), (n : Int), gs, rs⟩ k w2 i wr) (fun i _ => rs.length - (intOf i).toNat)
      case atStart => exact ⟨0, Nat.zero_le _, rfl, (fun p q h => by omega), HBo.out⟩
      case round =>
        obtain ⟨wi, hwi⟩ : ∃ wi : World, wi = wr := ⟨_, rfl⟩
        subst hwi
        obtain ⟨j, hj, rfl, hni, hb⟩ := hrel
        dsimp only at hj
        have HNi := Lib.hid hni
        have HBi := Lib.hid hb
        have HBw := Lib.hid (bthen HB2.out hb HB2.out.size)
        have HGi := Lib.hid (HG2.out.below hb HG2.out.lt)
        have hzi : w2.heap.size ≤ wi.heap.size := hb.size
        clear hni hb
        by_cases hjn : j < rs.length
        · obtain ⟨q2, hq2⟩ := get_some hjn
          have hAk : Els wi S rs A := HA.out.belowB HBw.out HS.out
          obtain ⟨bq, oq, Aq, cq, rfl, hSbq, hbs, hqi, hrc, hcr, hEr2, hc0, hc1⟩ := hAk.rule hq2
          have HQ2 := Lib.hid (And.intro hq2 (HRR.out q2 (List.mem_of_getElem? hq2)))
          have HRq := Lib.hid (HRI.out q2 (List.mem_of_getElem? hq2))
          have HEqq := Lib.hid (HEq.out q2 (List.mem_of_getElem? hq2))
          have hqlr := HPI.out.left q2 (List.mem_of_getElem? hq2)
          have HNil := Lib.hid (fun t l h => atP_nil (g := ⟨(m : Int), (n : Int), gs, rs⟩) (k := k - 1) (t := t) (l := l) HPI.out (List.mem_of_getElem? hq2) h)
          obtain ⟨ql, qr⟩ := q2
          dsimp only at hqi hrc hcr hEr2 hc0 hc1 hqlr
          obtain ⟨t, rfl⟩ : ∃ t : Nat, ql = (t : Int) := ⟨ql.toNat, by omega⟩
          have ht : t < n := by omega
          have htn : ((t : Int)).toNat = t := Int.toNat_natCast t
          have ht0 : (0 : Int) ≤ (t : Int) := by omega
          have ht9 : (t : Int) < (n : Int) := by omega
          have hj0 : (0 : Int) ≤ (j : Int) := by omega
          have HHt := Lib.hid htn
          obtain ⟨Tp, hTp⟩ := get_some (show k - 1 < T.length by rw [HTl.out]; omega)
          have HTp := Lib.hid (And.intro hTp (HT.out (k - 1) Tp hTp))
          have Hkm1 : Hid (IntKind.i64.wrap ((k : Int) - 1) = ((k - 1 : Nat) : Int)) := Lib.hid (by rw [IntWalk.i64_in _ (by omega)]; omega)
          have hkm2 : ((k - 1 : Nat) : Int) < (T.length : Int) := by have := HTl.out; omega
          have hkm3 : (0 : Int) ≤ ((k - 1 : Nat) : Int) := by omega
          obtain ⟨wx, hwx⟩ : ∃ wx : World, wx = (wi.alloc (.cells #[.int .i64 (t : Int), .slice Aq qr.length cq] 49)).alloc (.cells #[] 3) := ⟨_, rfl⟩
          have HWx := Lib.hid hwx
          have hbx : Below wi.heap.size wi wx := by rw [hwx]; exact ((Below.refl _ _).alloc (Nat.le_refl _) _).alloc (by simp) _
          have HXb : Hid (Blk' wx wi.heap.size 49 #[.int .i64 (t : Int), .slice Aq qr.length cq]) := Lib.hid (by rw [hwx]; exact (Blk'.new _ _ _).alloc _)
          have HO0 : Hid (Own wx (fun _ => False) (wi.heap.size + 1) 3 (.slice (some ⟨wi.heap.size + 1, 0, none⟩) 0 0) ([] : List Int)) := Lib.hid (by
            have h := Own.made (α := Int) (w := wi.alloc (.cells #[.int .i64 (t : Int), .slice Aq qr.length cq] 49)) (fun _ => False) (base := wi.heap.size + 1) (e := 3) (cur := #[]) (cap := 0) (by simp) (by omega) (by simp)
            rw [show (wi.alloc (.cells #[.int .i64 (t : Int), .slice Aq qr.length cq] 49)).heap.size = wi.heap.size + 1 by simp] at h
            rw [hwx]; exact h)
          have HGx := Lib.hid (HGi.out.below hbx HGi.out.lt)
          have HBx := Lib.hid (bthen HBi.out hbx HBi.out.size)
          have HBwx := Lib.hid (bthen HBw.out hbx HBw.out.size)
          have HEr : Hid (Els wx S qr Aq) := Lib.hid (hEr2.below hbx)
          have hzx : wx.heap.size = wi.heap.size + 1 + 1 := by rw [hwx]; simp
          have HZx := Lib.hid hzx
          have zx : wi.heap.size + 1 < wx.heap.size := by omega
          have g1 : wx.cell? ⟨w.heap.size, 1, none⟩ = some (.int .i64 (n : Int)) := HGx.out.cell 1
          have zgx : w.heap.size < wx.heap.size := HGx.out.lt
          clear hq2 hwx hbx hAk hEr2 hqi hTp htn hzx
          go_upto_region 9 with (fail)
          rw [← HWx.out]
          clear hc0 hc1
          go_wp2_with fail
          clear g1
          go_loopw [9, 36] (fun v i wr => CoJ (AtP ⟨(m : Int), (n : Int), gs, rs⟩ ⟨(t : Int), qr⟩ (k - 1) t) n (wi.heap.size + 1) wx v i wr) (fun _ i _ => n - (intOf i).toNat)
          case atStart => exact ⟨0, [], Nat.zero_le _, rfl, rfl, HO0.out, Below.refl _ _⟩
          case round =>
            obtain ⟨wc, hwc⟩ : ∃ wc : World, wc = wr := ⟨_, rfl⟩
            subst hwc
            obtain ⟨cc, nl, hcc, rfl, hfl, hown, hb⟩ := hrel
            obtain ⟨An, cn, rfl, hcn1, hcn2, _⟩ := hown.form
            have HFl := Lib.hid hfl
            have HOw := Lib.hid hown
            have HBxc := Lib.hid hb
            have HB2c : Hid (Below w2.heap.size w2 wc) := Lib.hid (HBx.out.trans (hb.mono (by omega)))
            have HBc := Lib.hid (bthen HB2.out HB2c.out HB2.out.size)
            have hnl9 : nl.length ≤ n := by have := hfl.len; omega
            have HXc := Lib.hid (HXb.out.below hb (by omega))
            have HGc := Lib.hid (HGx.out.below hb (by omega))
            have hzc : wx.heap.size ≤ wc.heap.size := hb.size
            clear hfl hown hb
            by_cases hcn : cc < n
            · have hcc0 : (0 : Int) ≤ (cc : Int) := by omega
              have hcc9 : (cc : Int) < (n : Int) := by omega
              have x0 : wc.cell? ⟨wi.heap.size, 0, none⟩ = some (.int .i64 (t : Int)) := HXc.out.cell 0
              have x1 : wc.cell? ⟨wi.heap.size, 1, none⟩ = some (.slice Aq qr.length cq) := HXc.out.cell 1
              have zxc : wi.heap.size < wc.heap.size := HXc.out.lt
              have g0 : wc.cell? ⟨w.heap.size, 0, none⟩ = some (.int .i64 (m : Int)) := HGc.out.cell 0
              have g1 : wc.cell? ⟨w.heap.size, 1, none⟩ = some (.int .i64 (n : Int)) := HGc.out.cell 1
              have g2 : wc.cell? ⟨w.heap.size, 2, none⟩ = some (.int .i64 gs) := HGc.out.cell 2
              have g3 : wc.cell? ⟨w.heap.size, 3, none⟩ = some (.slice (some ⟨bq, oq, none⟩) rs.length c) := HGc.out.cell 3
              have zgc : w.heap.size < wc.heap.size := HGc.out.lt
              have HNc : Hid (Blk' wc nb 4 (bcells (nullB L))) := Lib.hid (HN2.out.below HB2c.out HN2.out.lt)
              have HEc : Hid (Els wc S qr Aq) := Lib.hid (HEr.out.belowB HBxc.out (fun b h => by have := HS.out b h; omega))
              have hcap1 : (nl.length + 1) * 8 ≤ 140737488355328 := by omega
              have hcap2 : nl.length + 1 ≤ 9223372036854775807 := by omega
              have hki : I64 (cc : Int) := by unfold I64; omega
              have HKi := Lib.hid hki
              obtain ⟨prv, hprv⟩ := get_some (show cc < Tp.length by rw [HTp.out.2.1]; exact hcn)
              have hpv2 := HTp.out.2.2 cc prv hprv
              obtain ⟨z, hz⟩ := get_some (show t < prv.length by omega)
              have hzs := hpv2.2 t ht
              rw [hz] at hzs
              have HZs : Hid (z = true ↔ Stp (PassE ⟨(m : Int), (n : Int), gs, rs⟩) (k - 1) cc t) := Lib.hid ⟨fun h => hzs.1 (by rw [h]), fun h => by have := hzs.2 h; injection this⟩
              have hTpl : Tp.length = n := HTp.out.2.1
              have htpl : (cc : Int) < (Tp.length : Int) := by omega
              have hprl : (t : Int) < (prv.length : Int) := by omega
              have HPv := Lib.hid (And.intro hprv hz)
              clear hki hpv2 hzs hprv hz hTpl
              go_wp2_with fail
              refine wp_region_noPanic ?_
              refine wp_region_held_drew (S := (fun w' => w'.cell? ⟨w.heap.size, 0, none⟩ = some (.int .i64 (m : Int)) ∧ w'.cell? ⟨w.heap.size, 1, none⟩ = some (.int .i64 (n : Int)) ∧ w'.cell? ⟨w.heap.size, 2, none⟩ = some (.int .i64 gs) ∧ w'.cell? ⟨w.heap.size, 3, none⟩ = some (.slice (some ⟨bq, oq, none⟩) rs.length c) ∧ w'.cell? ⟨wi.heap.size, 0, none⟩ = some (.int .i64 (t : Int)) ∧ w'.cell? ⟨wi.heap.size, 1, none⟩ = some (.slice Aq qr.length cq))) (by kernel_rfl) ?ha (fun hHeld => ?ba)
              case ha => ((try dsimp only); go_keep)
              refine take_run (i := 0) (v := ?va0) rfl (by kernel_rfl) (by kernel_rfl) (by kernel_rfl) (fun _ _ _ h => h) (by rfl) ?ya0 (by assumption) ?ra0
              case ya0 => (intro w hSw; (try dsimp only at hSw); go_simp; try with_reducible rfl)
              try simp only [Act.put, List.setIfInBounds_toArray, List.set_cons_zero, List.set_cons_succ]
              refine take_run (i := 1) (v := ?va1) rfl (by kernel_rfl) (by kernel_rfl) (by kernel_rfl) (fun _ _ _ h => h) (by rfl) ?ya1 (by assumption) ?ra1
              case ya1 => (intro w hSw; (try dsimp only at hSw); go_simp; try with_reducible rfl)
              try simp only [Act.put, List.setIfInBounds_toArray, List.set_cons_zero, List.set_cons_succ]
              refine take_run (i := 2) (v := ?va2) rfl (by kernel_rfl) (by kernel_rfl) (by kernel_rfl) (fun _ _ _ h => h) (by rfl) ?ya2 (by assumption) ?ra2
              case ya2 => (intro w hSw; (try dsimp only at hSw); go_simp; try with_reducible rfl)
              try simp only [Act.put, List.setIfInBounds_toArray, List.set_cons_zero, List.set_cons_succ]
              refine take_run (i := 3) (v := ?va3) rfl (by kernel_rfl) (by kernel_rfl) (by kernel_rfl) (fun _ _ _ h => h) (by rfl) ?ya3 (by assumption) ?ra3
              case ya3 => (intro w hSw; (try dsimp only at hSw); go_simp; try with_reducible rfl)
              try simp only [Act.put, List.setIfInBounds_toArray, List.set_cons_zero, List.set_cons_succ]
              refine take_call (i := 4) rfl (by kernel_rfl) (by rfl) (fun Kq hK => ?_)
              go_simp
              go_at_call 35
              refine (rpasses_any ⟨(m : Int), (n : Int), gs, rs⟩ _ nb n (nullB L) ⟨(t : Int), qr⟩ Aq cq S (cc : Int) _ ⟨_, _, _, _, _, _, rfl⟩ HNc.out.drew HNl.out (by have := HQ2.out.2; dsimp only at this ⊢; omega) (fun s hs => HRq.out.2.2.2 s hs) hrc hcr (HEc.out.below (Below.refl _ _).drew) (fun b h => by have := HS.out b h; show b < wc.heap.size; omega) HEqq.out).mono ?_
              rintro e w5 ⟨bb, rfl, hbb, hb5⟩
              have HBd5 : Hid (Below wc.heap.size wc w5) := Lib.hid (bundrew hb5)
              have HO5 := Lib.hid (HOw.out.below HBd5.out (Nat.le_refl _))
              have HBx5 : Hid (Below (wi.heap.size + 1) wx w5) := Lib.hid (HBxc.out.trans (HBd5.out.mono (by omega)))
              have hz5 : wc.heap.size ≤ w5.heap.size := HBd5.out.size
              have HX5 := Lib.hid (HXc.out.below HBd5.out HXc.out.lt)
              have HG5 := Lib.hid (HGc.out.below HBd5.out HGc.out.lt)
              have y0 : w5.cell? ⟨wi.heap.size, 0, none⟩ = some (.int .i64 (t : Int)) := HX5.out.cell 0
              have y1 : w5.cell? ⟨wi.heap.size, 1, none⟩ = some (.slice Aq qr.length cq) := HX5.out.cell 1
              have k0 : w5.cell? ⟨w.heap.size, 0, none⟩ = some (.int .i64 (m : Int)) := HG5.out.cell 0
              have k1 : w5.cell? ⟨w.heap.size, 1, none⟩ = some (.int .i64 (n : Int)) := HG5.out.cell 1
              have k2 : w5.cell? ⟨w.heap.size, 2, none⟩ = some (.int .i64 gs) := HG5.out.cell 2
              have k3 : w5.cell? ⟨w.heap.size, 3, none⟩ = some (.slice (some ⟨bq, oq, none⟩) rs.length c) := HG5.out.cell 3
              have zx5 : wi.heap.size < w5.heap.size := HX5.out.lt
              have zg5 : w.heap.size < w5.heap.size := HG5.out.lt
              have hT5 : Els w5 (fun b => b < w2.heap.size) T AT := HTE.out.belowB (HB2c.out.trans (HBd5.out.mono (by omega))) (fun b h => h)
              obtain ⟨b1, o1, A1, c1, eA1, hS1, hb1, hd1, hc11, hc12, hE1⟩ := hT5.rowS HTp.out.1
              obtain ⟨b2, o2, A2, c2, eA2, hS2, hb22, hd2, hc21, hc22, hE2⟩ := hE1.rowS HPv.out.1
              obtain ⟨b3, o3, eA3, hS3, hb3, hd3⟩ := hE2.bool HPv.out.2
              subst eA1; subst eA2; subst eA3
              clear hb5 x0 x1 g0 g1 g2 g3 hT5 hE1 hE2
              refine hK.out _ _ ?ha4 (fun hHeld => ?ra4)
              case ha4 => ((try dsimp only); go_keep)
              clear hK Kq
              try simp only [Act.put, List.setIfInBounds_toArray, List.set_cons_zero, List.set_cons_succ]
              refine take_run (i := 5) (v := ?va5) rfl (by kernel_rfl) (by kernel_rfl) (by kernel_rfl) (fun _ _ _ h => h) (by rfl) ?ya5 (by assumption) ?ra5
              case ya5 => (intro w hSw; (try dsimp only at hSw); go_simp; try with_reducible rfl)
              try simp only [Act.put, List.setIfInBounds_toArray, List.set_cons_zero, List.set_cons_succ]
              have HBB := Lib.hid hbb
              clear hbb
              have hkm := Hkm1.out
              cases bb
              · have HFn : Hid (FiltIs (AtP ⟨(m : Int), (n : Int), gs, rs⟩ ⟨(t : Int), qr⟩ (k - 1) t) (cc + 1) nl) := Lib.hid ⟨nl, HFl.out, .inr ⟨(fun h => by have h9 := HBB.out.2 h.1; cases h9), rfl⟩⟩
                refine take_bar (i := 6) rfl (by kernel_rfl) (by kernel_rfl) (by kernel_rfl) (fun _ _ _ h => h) (by rfl) (by assumption) ?_
                try simp only [Act.put, List.setIfInBounds_toArray, List.set_cons_zero, List.set_cons_succ]
                refine take_bar (i := 7) rfl (by kernel_rfl) (by kernel_rfl) (by kernel_rfl) (fun _ _ _ h => h) (by rfl) (by assumption) ?_
                try simp only [Act.put, List.setIfInBounds_toArray, List.set_cons_zero, List.set_cons_succ]
                refine take_bar (i := 8) rfl (by kernel_rfl) (by kernel_rfl) (by kernel_rfl) (fun _ _ _ h => h) (by rfl) (by assumption) ?_
                try simp only [Act.put, List.setIfInBounds_toArray, List.set_cons_zero, List.set_cons_succ]
                refine take_bar (i := 9) rfl (by kernel_rfl) (by kernel_rfl) (by kernel_rfl) (fun _ _ _ h => h) (by rfl) (by assumption) ?_
                try simp only [Act.put, List.setIfInBounds_toArray, List.set_cons_zero, List.set_cons_succ]
                refine take_bar (i := 10) rfl (by kernel_rfl) (by kernel_rfl) (by kernel_rfl) (fun _ _ _ h => h) (by rfl) (by assumption) ?_
                try simp only [Act.put, List.setIfInBounds_toArray, List.set_cons_zero, List.set_cons_succ]
                refine take_bar (i := 11) rfl (by kernel_rfl) (by kernel_rfl) (by kernel_rfl) (fun _ _ _ h => h) (by rfl) (by assumption) ?_
                try simp only [Act.put, List.setIfInBounds_toArray, List.set_cons_zero, List.set_cons_succ]
                refine take_bar (i := 12) rfl (by kernel_rfl) (by kernel_rfl) (by kernel_rfl) (fun _ _ _ h => h) (by rfl) (by assumption) ?_
                try simp only [Act.put, List.setIfInBounds_toArray, List.set_cons_zero, List.set_cons_succ]
                refine take_bar (i := 13) rfl (by kernel_rfl) (by kernel_rfl) (by kernel_rfl) (fun _ _ _ h => h) (by rfl) (by assumption) ?_
                try simp only [Act.put, List.setIfInBounds_toArray, List.set_cons_zero, List.set_cons_succ]
                refine take_bar (i := 14) rfl (by kernel_rfl) (by kernel_rfl) (by kernel_rfl) (fun _ _ _ h => h) (by rfl) (by assumption) ?_
                try simp only [Act.put, List.setIfInBounds_toArray, List.set_cons_zero, List.set_cons_succ]
                refine take_bar (i := 15) rfl (by kernel_rfl) (by kernel_rfl) (by kernel_rfl) (fun _ _ _ h => h) (by rfl) (by assumption) ?_
                try simp only [Act.put, List.setIfInBounds_toArray, List.set_cons_zero, List.set_cons_succ]
                refine take_bar (i := 16) rfl (by kernel_rfl) (by kernel_rfl) (by kernel_rfl) (fun _ _ _ h => h) (by rfl) (by assumption) ?_
                try simp only [Act.put, List.setIfInBounds_toArray, List.set_cons_zero, List.set_cons_succ]
                refine take_bar (i := 17) rfl (by kernel_rfl) (by kernel_rfl) (by kernel_rfl) (fun _ _ _ h => h) (by rfl) (by assumption) ?_
                try simp only [Act.put, List.setIfInBounds_toArray, List.set_cons_zero, List.set_cons_succ]
                refine take_run (i := 18) (v := ?vb18) rfl (by kernel_rfl) (by kernel_rfl) (by kernel_rfl) (fun _ _ _ h => h) (by rfl) ?yb18 (by assumption) ?rb18
                case yb18 => (intro w hSw; (try dsimp only at hSw); go_simp; try with_reducible rfl)
                try simp only [Act.put, List.setIfInBounds_toArray, List.set_cons_zero, List.set_cons_succ]
                refine wpAnyH_done (by kernel_rfl) ?_ _
                refine NoPanic.normal ?_
                go_wp2
                go_roundw
                case rel => exact ⟨cc + 1, nl, hcn, by go_num, HFn.out, HO5.out, HBx5.out⟩
                case measure => simp [intOf]; omega
              · have HPs := Lib.hid (HBB.out.1 rfl)
                refine take_run (i := 6) (v := ?vd6) rfl (by kernel_rfl) (by kernel_rfl) (by kernel_rfl) (fun _ _ _ h => h) (by rfl) ?yd6 (by assumption) ?rd6
                case yd6 => (intro w hSw; (try dsimp only at hSw); go_simp; try with_reducible rfl)
                try simp only [Act.put, List.setIfInBounds_toArray, List.set_cons_zero, List.set_cons_succ]
                refine take_run (i := 7) (v := ?vd7) rfl (by kernel_rfl) (by kernel_rfl) (by kernel_rfl) (fun _ _ _ h => h) (by rfl) ?yd7 (by assumption) ?rd7
                case yd7 => (intro w hSw; (try dsimp only at hSw); go_simp; try with_reducible rfl)
                try simp only [Act.put, List.setIfInBounds_toArray, List.set_cons_zero, List.set_cons_succ]
                refine take_run (i := 8) (v := ?vd8) rfl (by kernel_rfl) (by kernel_rfl) (by kernel_rfl) (fun _ _ _ h => h) (by rfl) ?yd8 (by assumption) ?rd8
                case yd8 => (intro w hSw; (try dsimp only at hSw); go_simp; try with_reducible rfl)
                try simp only [Act.put, List.setIfInBounds_toArray, List.set_cons_zero, List.set_cons_succ]
                refine take_run (i := 9) (v := ?vd9) rfl (by kernel_rfl) (by kernel_rfl) (by kernel_rfl) (fun _ _ _ h => h) (by rfl) ?yd9 (by assumption) ?rd9
                case yd9 => (intro w hSw; (try dsimp only at hSw); go_simp; try with_reducible rfl)
                try simp only [Act.put, List.setIfInBounds_toArray, List.set_cons_zero, List.set_cons_succ]
                refine take_run (i := 11) (v := ?vd11) rfl (by kernel_rfl) (by kernel_rfl) (by kernel_rfl) (fun _ _ _ h => h) (by rfl) ?yd11 (by assumption) ?rd11
                case yd11 => (intro w hSw; (try dsimp only at hSw); go_simp; try with_reducible rfl)
                try simp only [Act.put, List.setIfInBounds_toArray, List.set_cons_zero, List.set_cons_succ]
                refine take_run (i := 14) (v := ?vd14) rfl (by kernel_rfl) (by kernel_rfl) (by kernel_rfl) (fun _ _ _ h => h) (by rfl) ?yd14 (by assumption) ?rd14
                case yd14 => (intro w hSw; (try dsimp only at hSw); go_simp; try with_reducible rfl)
                try simp only [Act.put, List.setIfInBounds_toArray, List.set_cons_zero, List.set_cons_succ]
                refine take_run (i := 15) (v := ?vd15) rfl (by kernel_rfl) (by kernel_rfl) (by kernel_rfl) (fun _ _ _ h => h) (by rfl) ?yd15 (by assumption) ?rd15
                case yd15 => (intro w hSw; (try dsimp only at hSw); go_simp; try with_reducible rfl)
                try simp only [Act.put, List.setIfInBounds_toArray, List.set_cons_zero, List.set_cons_succ]
                refine take_call (i := 10) rfl (by kernel_rfl) (by rfl) (fun Kq hK => ?_)
                go_simp
                refine hK.out _ _ ?hd10 (fun hHeld => ?rd10)
                case hd10 => ((try dsimp only); go_keep)
                clear hK Kq
                try simp only [Act.put, List.setIfInBounds_toArray, List.set_cons_zero, List.set_cons_succ]
                refine take_run (i := 12) (v := ?vd12) rfl (by kernel_rfl) (by kernel_rfl) (by kernel_rfl) (fun _ _ _ h => h) (by rfl) ?yd12 (by assumption) ?rd12
                case yd12 => (intro w hSw; (try dsimp only at hSw); go_simp; try with_reducible rfl)
                try simp only [Act.put, List.setIfInBounds_toArray, List.set_cons_zero, List.set_cons_succ]
                refine take_call (i := 13) rfl (by kernel_rfl) (by rfl) (fun Kq hK => ?_)
                go_simp
                refine hK.out _ _ ?hd13 (fun hHeld => ?rd13)
                case hd13 => ((try dsimp only); go_keep)
                clear hK Kq
                try simp only [Act.put, List.setIfInBounds_toArray, List.set_cons_zero, List.set_cons_succ]
                refine take_run (i := 16) (v := ?vd16) rfl (by kernel_rfl) (by kernel_rfl) (by kernel_rfl) (fun _ _ _ h => h) (by rfl) ?yd16 (by assumption) ?rd16
                case yd16 => (intro w hSw; (try dsimp only at hSw); go_simp; try with_reducible rfl)
                try simp only [Act.put, List.setIfInBounds_toArray, List.set_cons_zero, List.set_cons_succ]
                refine take_call (i := 17) rfl (by kernel_rfl) (by rfl) (fun Kq hK => ?_)
                go_simp
                refine hK.out _ _ ?hd17 (fun hHeld => ?rd17)
                case hd17 => ((try dsimp only); go_keep)
                clear hK Kq
                try simp only [Act.put, List.setIfInBounds_toArray, List.set_cons_zero, List.set_cons_succ]
                refine take_run (i := 18) (v := ?vd18) rfl (by kernel_rfl) (by kernel_rfl) (by kernel_rfl) (fun _ _ _ h => h) (by rfl) ?yd18 (by assumption) ?rd18
                case yd18 => (intro w hSw; (try dsimp only at hSw); go_simp; try with_reducible rfl)
                try simp only [Act.put, List.setIfInBounds_toArray, List.set_cons_zero, List.set_cons_succ]
                refine wpAnyH_done (by kernel_rfl) ?_ _
                refine NoPanic.normal ?_
                cases z
                · have HFn : Hid (FiltIs (AtP ⟨(m : Int), (n : Int), gs, rs⟩ ⟨(t : Int), qr⟩ (k - 1) t) (cc + 1) nl) := Lib.hid ⟨nl, HFl.out, .inr ⟨(fun h => by have h9 := HZs.out.2 h.2; cases h9), rfl⟩⟩
                  go_wp2
                  go_roundw
                  case rel => exact ⟨cc + 1, nl, hcn, by go_num, HFn.out, HO5.out, HBx5.out⟩
                  case measure => simp [intOf]; omega
                · have HFn : Hid (FiltIs (AtP ⟨(m : Int), (n : Int), gs, rs⟩ ⟨(t : Int), qr⟩ (k - 1) t) (cc + 1) (nl ++ [(cc : Int)])) := Lib.hid ⟨nl, HFl.out, .inl ⟨⟨HPs.out, HZs.out.1 rfl⟩, rfl⟩⟩
                  have hzb : wi.heap.size + 1 ≤ w5.heap.size := by omega
                  go_wp2_with (at_builtin; refine wpList_own1 _ rfl _ _ elemInt rfl rfl (HO5.out.alloc _) (cc : Int) [.int .i64 (cc : Int)] rfl (At.new _ _ _) ⟨rfl, HKi.out⟩ hcap1 hcap2 (Nat.le_trans hzb ((Below.refl _ _).alloc (Nat.le_refl _) _).size) ?_; intro v' w4 hown3 hg3 hat3; have H3 := Lib.hid (And.intro hown3 hg3); clear hown3 hg3 hat3)
                  go_roundw
                  case rel => exact ⟨cc + 1, nl ++ [(cc : Int)], hcn, by go_num, HFn.out, H3.out.1, bgrown (HBx5.out.alloc (by omega) _) H3.out.2 (HO5.out.alloc _) (Nat.le_refl _) (Nat.le_trans hzb ((Below.refl _ _).alloc (Nat.le_refl _) _).size)⟩
                  case measure => simp [intOf]; omega
            · have hce : cc = n := by omega
              have HFn : Hid (FiltIs (AtP ⟨(m : Int), (n : Int), gs, rs⟩ ⟨(t : Int), qr⟩ (k - 1) t) n nl) := Lib.hid (by have h9 := HFl.out; rw [hce] at h9; exact h9)
              by_cases hnil : nl = []
              · have hl0 : nl.length = 0 := by rw [hnil]; rfl
                have hl1 : (nl.length : Int) = 0 := by omega
                have HNx : Hid (∀ p q, p < j + 1 → rs[p]? = some q → ¬ TabR ⟨(m : Int), (n : Int), gs, rs⟩ (k - 1) q q.left.toNat) := Lib.hid (fun p q hp hq => by
                  by_cases e : p = j
                  · subst e
                    rw [HQ2.out.1] at hq
                    injection hq with hq
                    subst hq
                    show ¬ TabR _ _ _ ((t : Int)).toNat
                    rw [HHt.out]
                    exact (HNil.out t nl HFn.out).1 hnil
                  · exact HNi.out p q (by omega) hq)
                clear hnil hce hl0
                go_wp2
                go_roundw
                case rel =>
                  first
                  | exact ⟨j + 1, hjn, by go_num, HNx.out, HB2c.out⟩
                  | trace_state
                case measure => simp [intOf]; omega
              · have hl1 : ¬ (nl.length : Int) = 0 := by have := List.length_pos_iff.2 hnil; omega
                have hl2 : ¬ nl.length = 0 := by omega
                have hl3 : ((nl.length : Int) == 0) = false := by rw [beq_eq_false_iff_ne]; exact hl1
                have hl4 : decide (nl = []) = false := by simp [hnil]
                have HTb : Hid (TabR ⟨(m : Int), (n : Int), gs, rs⟩ (k - 1) ⟨(t : Int), qr⟩ t) := Lib.hid (Classical.byContradiction fun h => hnil ((HNil.out t nl HFn.out).2 h))
                clear hce
                have hj64 : I64 (j : Int) := by unfold I64; omega
                obtain ⟨wl, hwl⟩ : ∃ wl : World, wl = wc.alloc (.cells #[.int .i64 (j : Int)] 3) := ⟨_, rfl⟩
                have hbl : Below wc.heap.size wc wl := by rw [hwl]; exact (Below.refl _ _).alloc (Nat.le_refl _) _
                have HOl : Hid (Own wl (fun _ => False) wc.heap.size 3 (.slice (some ⟨wc.heap.size, 0, none⟩) 1 1) [(j : Int)]) := Lib.hid (by rw [hwl]; exact Own.lit1 _ (Nat.le_refl _) hj64)
                have hzl : wl.heap.size = wc.heap.size + 1 := by rw [hwl]; simp
                have HEa : Hid (Els wl (fun b => b < wl.heap.size ∧ (Value.slice (some ⟨wc.heap.size, 0, none⟩) 1 1).ownBlock ≠ some b) nl An) := Lib.hid ((HOw.out.vl.els.2.2.2.below hbl).keep (fun _ _ _ => rfl) (fun b hb => ⟨by have := hb.2; omega, fun e => by have e9 : some wc.heap.size = some b := e; injection e9 with e9; have := hb.2; omega⟩))
                have HWl := Lib.hid hwl
                have HBl : Hid (Below w2.heap.size w2 wl) := Lib.hid (bthen HB2c.out hbl HB2c.out.size)
                have HXl := Lib.hid (HXc.out.below hbl HXc.out.lt)
                have HGl := Lib.hid (HGc.out.below hbl HGc.out.lt)
                have HKm : Hid (1 ≤ k ∧ k ≤ n) := Lib.hid ⟨hk1, hkn⟩
                have hwk : wrap64 ((k : Int) - 1) = ((k - 1 : Nat) : Int) := by rw [IntWalk.wrap64_in _ (by omega)]; omega
                have HWk := Lib.hid hwk
                have hzl2 : wc.heap.size < wl.heap.size := by omega
                clear hwl hbl hzl hj64 hwk
                go_upto_region 17 with (fail)
                rw [← HWl.out]
                have hkm := Hkm1.out
                go_upto_region 18 with (fail)
                clear hkm
                go_loopw [9, 11, 12] (fun va vo vl wr => CoL ⟨(m : Int), (n : Int), gs, rs⟩ n k j t wc.heap.size wl va vo vl wr) (fun _ _ vl _ => (intOf vl).toNat)
                case atStart => exact ⟨0, [(j : Int)], nl, (j : Int), ⟨(t : Int), qr⟩, An, cn, by omega, rfl, CycTo.start, by simp; omega, rfl, ⟨by omega, by simpa using HQ2.out.1⟩, HTb.out, HFn.out, HOl.out, rfl, HEa.out, Below.refl _ _⟩
                case round =>
                  obtain ⟨wz, hwz⟩ : ∃ wz : World, wz = wr := ⟨_, rfl⟩
                  subst hwz
                  obtain ⟨p, l, al, x, qx, Aa, ca, hpk, rfl, hcyc, hll, hlx, hrx, htab, hfil, hown, rfl, haE, hb⟩ := hrel
                  obtain ⟨Ao, co, rfl, hco1, hco2, _⟩ := hown.form
                  obtain ⟨lf, hlf⟩ : ∃ lf, lf = k - 1 - p := ⟨_, rfl⟩
                  rw [← hlf] at htab hfil
                  rw [← hlf]
                  have HLf := Lib.hid (And.intro hlf hpk)
                  have HCyc := Lib.hid hcyc
                  have HX := Lib.hid (And.intro hlx hrx)
                  have HTab := Lib.hid htab
                  have HFil := Lib.hid hfil
                  have HOz := Lib.hid hown
                  have HaE := Lib.hid haE
                  have HBz := Lib.hid hb
                  have HB2z : Hid (Below w2.heap.size w2 wz) := Lib.hid (bthen HBl.out (hb.mono (Nat.le_refl _)) (by have := HB2c.out.size; omega))
                  have HBwz := Lib.hid (bthen HB2.out HB2z.out HB2.out.size)
                  have hal : al.length ≤ 1000 := by have := hfil.len; omega
                  have hlk : lf ≤ n := by omega
                  have hl10 : l.length ≤ 10 := by omega
                  have hzz : wl.heap.size ≤ wz.heap.size := hb.size
                  have HXz := Lib.hid (HXl.out.below hb (by omega))
                  have HGz := Lib.hid (HGl.out.below hb (by omega))
                  clear hcyc hlx hrx htab hfil hown haE hb hlf hpk
                  by_cases hlf0 : lf = 0
                  · subst hlf0
                    have HFin : Hid (CycF ⟨(m : Int), (n : Int), gs, rs⟩ n k j ⟨(t : Int), qr⟩ l) := Lib.hid (by
                      have hp : p = k - 1 := by have := HLf.out; omega
                      have hc := HCyc.out
                      rw [hp] at hc
                      refine ⟨HKm.out, HQ2.out.1, ?_, HNo.out, fun i' h q' hq => HNi.out i' q' h hq, ?_⟩
                      · show TabR _ _ _ ((t : Int)).toNat
                        rw [HHt.out]; exact HTb.out
                      · show CycTo _ _ _ ((t : Int)).toNat _ _
                        rw [HHt.out]; exact hc)
                    go_wp2
                    go_ret2
                    exact .inr ⟨k, j, _, l, _, rfl, HFin.out, HOz.out.base (by have := HBc.out.size; omega), HBwz.out⟩
                  · have hlf1 : 1 ≤ lf := by omega
                    have hlf9 : (0 : Int) < (lf : Int) := by omega
                    have x0 : wz.cell? ⟨wi.heap.size, 0, none⟩ = some (.int .i64 (t : Int)) := HXz.out.cell 0
                    have zxz : wi.heap.size < wz.heap.size := HXz.out.lt
                    have g0 : wz.cell? ⟨w.heap.size, 0, none⟩ = some (.int .i64 (m : Int)) := HGz.out.cell 0
                    have g1 : wz.cell? ⟨w.heap.size, 1, none⟩ = some (.int .i64 (n : Int)) := HGz.out.cell 1
                    have g2 : wz.cell? ⟨w.heap.size, 2, none⟩ = some (.int .i64 gs) := HGz.out.cell 2
                    have g3 : wz.cell? ⟨w.heap.size, 3, none⟩ = some (.slice (some ⟨bq, oq, none⟩) rs.length c) := HGz.out.cell 3
                    have zgz : w.heap.size < wz.heap.size := HGz.out.lt
                    have hlfe : lf = (lf - 1) + 1 := by omega
                    have HEx : Hid (∃ q ∈ rs, StepOk ⟨(m : Int), (n : Int), gs, rs⟩ al (lf - 1) t q) := Lib.hid (by
                      have h1 := HFil.out
                      have h2 := HTab.out
                      rw [hlfe] at h1 h2
                      exact stepOk_ex HPI.out HX.out.2 h1 h2)
                    have HNx : Hid (∀ (y : Int) (q' : Rule), RuleAt ⟨(m : Int), (n : Int), gs, rs⟩ y q' → (StepOk ⟨(m : Int), (n : Int), gs, rs⟩ al (lf - 1) t q' ↔ NextOk ⟨(m : Int), (n : Int), gs, rs⟩ x y (lf - 1) t)) := Lib.hid (fun y q' hy => by
                      have h1 := HFil.out
                      rw [hlfe] at h1
                      exact stepOk_next HPI.out HX.out.2 h1 hy)
                    have Hlm : Hid (IntKind.i64.wrap ((lf : Int) - 1) = ((lf - 1 : Nat) : Int)) := Lib.hid (by rw [IntWalk.i64_in _ (by omega)]; omega)
                    clear hlf0 hlfe
                    go_wp2_with fail
                    refine (rstep_any ⟨(m : Int), (n : Int), gs, rs⟩ m n nb lf t L T al (some ⟨bq, oq, none⟩) AT Aa c cT ca S (fun b => b < w2.heap.size) (fun b => b < wz.heap.size ∧ (Value.slice Ao l.length co).ownBlock ≠ some b) wz rfl rfl HC.out hlc hc (HA.out.belowB HBwz.out HS.out) (fun b hb => by have := HS.out b hb; omega) HL.out (HN2.out.below HB2z.out HN2.out.lt) HTl.out HT.out (HTE.out.belowB HB2z.out (fun b h => h)) (fun b h => by have := HB2z.out.size; omega) HaE.out (fun b h => h.1) hal ht ⟨hlf1, hlk⟩).mono ?_
                    rintro e w5 ⟨y, v5, nl5, rfl, hown5, hb5, hres⟩
                    obtain ⟨p5, q5, rfl, hq5, hso5, hfl5, hno5⟩ := hres.resolve_right (fun h => by obtain ⟨q, hq, hs⟩ := HEx.out; exact h q hq hs)
                    obtain ⟨A5, c5, rfl, hc51, hc52, _⟩ := hown5.form
                    have HR5 := Lib.hid (And.intro hq5 (And.intro hso5 (And.intro hfl5 hno5)))
                    have HO5 := Lib.hid hown5
                    have HOo := Lib.hid (HOz.out.below hb5 (Nat.le_refl _))
                    have HB5 := Lib.hid hb5
                    have hz5 : wz.heap.size ≤ w5.heap.size := hb5.size
                    have hp5 : p5 < rs.length := (List.getElem?_eq_some_iff.1 hq5).1
                    have HXI : Hid (I64 (p5 : Int)) := Lib.hid (by unfold I64; omega)
                    have hcap1 : (l.length + 1) * 8 ≤ 140737488355328 := by omega
                    have hcap2 : l.length + 1 ≤ 9223372036854775807 := by omega
                    have hzb : wc.heap.size ≤ w5.heap.size := by omega
                    have hlm := Hlm.out
                    clear hres hq5 hso5 hfl5 hno5 hown5 hb5 x0 g0 g1 g2 g3 hp5
                    go_wp2_with (at_builtin; refine wpList_own1 _ rfl _ _ elemInt rfl rfl (HOo.out.alloc (.cells #[.int .i64 (p5 : Int)] 3)) (p5 : Int) [.int .i64 (p5 : Int)] rfl (At.new _ _ _) ⟨rfl, HXI.out⟩ hcap1 hcap2 (Nat.le_trans hzb ((Below.refl _ _).alloc (Nat.le_refl _) _).size) ?_; intro v' w4 hown3 hg3 hat3; have H3 := Lib.hid (And.intro hown3 (And.intro hg3 hat3)); clear hown3 hg3 hat3)
                    clear hlm
                    go_roundw
                    case rel =>
                      obtain ⟨hq5, hso5, hfl5, hno5⟩ := HR5.out
                      obtain ⟨hown3, hg3, hat3⟩ := H3.out
                      obtain ⟨hl1, hl2⟩ := HLf.out
                      have hra5 : RuleAt ⟨(m : Int), (n : Int), gs, rs⟩ (p5 : Int) q5 := ⟨by omega, by simpa using hq5⟩
                      have hmore : k - 2 - p = lf - 1 := by omega
                      have hlen := HCyc.out.len
                      trace_state
                      refine ⟨p + 1, l ++ [(p5 : Int)], nl5, (p5 : Int), q5, A5, c5, by omega, ?_, ?_, ?_, ?_, hra5, ?_, ?_, hown3, rfl, ?_, ?_⟩
                      · congr 1; omega
                      · refine HCyc.out.snoc HX.out.1 ?_ ?_
                        · rw [hmore]; exact (HNx.out _ _ hra5).1 hso5
                        · rw [hmore]
                          intro z h1 h2 h3
                          obtain ⟨qa, qb, ha, hb9, h4, h5⟩ := h3
                          have h6 := (HNx.out z qb hb9).2 ⟨qa, qb, ha, hb9, h4, h5⟩
                          exact hno5 z.toNat qb (by omega) hb9.2 h6
                      · rw [snoc_len]; omega
                      · rw [List.getElem?_append_right (by omega), hlen]; simp
                      · rw [show k - 1 - (p + 1) = lf - 1 by omega]; exact hso5.2
                      · rw [show k - 1 - (p + 1) = lf - 1 by omega]; exact hfl5
                      · have hba : Below w5.heap.size w5 (w5.alloc (.cells #[.int .i64 (p5 : Int)] 3)) := (Below.refl _ _).alloc (Nat.le_refl _) _
                        have q1 : Els (w5.alloc (.cells #[.int .i64 (p5 : Int)] 3)) (fun b => (False ∨ wz.heap.size ≤ b) ∧ b < w5.heap.size) nl5 A5 := HO5.out.vl.els.2.2.2.below hba
                        have q2 := Els.grown q1 hg3 (fun k9 hk9 h => by have := (HOz.out.block k9 hk9).2; rcases h.1 with h | h; exact h; omega)
                        refine q2.keep (fun _ _ _ => rfl) (fun b hb9 => ⟨?_, fun e => ?_⟩)
                        · have := hb9.2; have := hg3.size; simp at this; omega
                        · rcases hat3 with h | h
                          · rw [h] at e
                            have := (HOz.out.block b e).2
                            rcases hb9.1 with h | h
                            · exact h
                            · omega
                          · rw [h] at e; injection e with e; have := hb9.2; simp at e; omega
                      · exact bgrown ((HBz.out.trans (HB5.out.mono (by omega))).alloc (by omega) _) hg3 (HOo.out.alloc _) (Nat.le_refl _) (Nat.le_trans hzb ((Below.refl _ _).alloc (Nat.le_refl _) _).size)
                    case measure => simp [intOf]; omega
        · have hjj : j = rs.length := by omega
          have HNx : Hid (∀ k', 1 ≤ k' → k' < k + 1 → ∀ q' ∈ rs, ¬ TabR ⟨(m : Int), (n : Int), gs, rs⟩ (k' - 1) q' q'.left.toNat) := Lib.hid (fun k' h1 h2 q' hq' => by
            by_cases e : k' = k
            · subst e
              obtain ⟨i', hi'⟩ := List.mem_iff_getElem?.1 hq'
              exact HNi.out i' q' (by have := (List.getElem?_eq_some_iff.1 hi').1; omega) hi'
            · exact HNo.out k' h1 (by omega) q' hq')
          have Hw : Hid (IntKind.i64.wrap ((k : Int) + 1) = (k : Int) + 1) := Lib.hid (IntWalk.i64_in _ (by omega))
          have hw := Hw.out
          go_wp2
          clear hw
          go_roundw
          case rel =>
            first
            | exact ⟨k + 1, by omega, by omega, by go_num, HNx.out, HBi.out⟩
            | trace_state
          case measure => simp [intOf]; omega
    · have hkn9 : ¬ (k : Int) ≤ (n : Int) := by omega
      have HFin : Hid (NoCyc ⟨(m : Int), (n : Int), gs, rs⟩ n) := Lib.hid (fun k' h1 h2 => HNo.out k' h1 (by omega))
      go_wp2
      go_ret2
      exact .inl ⟨rfl, HFin.out, bthen HB2.out HBo.out HB2.out.size⟩
end Go.Proofs.YtagcnhiinmiklaaDoor
