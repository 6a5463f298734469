/- Contract: cycle.Loops: which nonterminals are on cycles. -/
import Derived.Test.YtjdojogjogenkaaDoorQCycLoopsP
namespace Go.Proofs.YtjdojogjogenkaaDoor
open Go.RowKit
set_option linter.unusedVariables false

set_option maxRecDepth 100000 in
set_option maxHeartbeats 8000000 in
theorem loops_any (g : Gram) (m n : Nat) (A : Option Addr) (c : Nat) (S : Nat → Prop) (w : World) (hgt : g.terms = (m : Int)) (hgn : g.nons = (n : Int)) (hck : checkI g = 0) (hlc : g.rules.length ≤ c) (hc : c ≤ 9223372036854775807) (hA : Els w S g.rules A) (hS : ∀ b, S b → b < w.heap.size) :
    Calls Tryd.prog 23 #[.agg #[.int .i64 g.terms, .int .i64 g.nons, .int .i64 g.start, .slice A g.rules.length c]] w fun e w' => ∃ v l, e = .returned (.tuple #[v, .int .i64 0]) ∧ LoopL g n l ∧ Own w' (fun _ => False) w.heap.size 4 v l ∧ Below w.heap.size w w' := by
  have hv := validG_of hck
  have hpi := passIn_of hv hgn
  obtain ⟨gt, gn, gs, rs⟩ := g
  dsimp only at *
  subst hgt; subst hgn
  have hn : n ≤ 100 := by have := hv.n10; dsimp only at this; omega
  have hrl : rs.length ≤ 32 := hv.len
  have hn9 : (n : Int) ≤ 100 := by omega
  have HV := Lib.hid hv
  have HPI := Lib.hid hpi
  have HA := Lib.hid hA
  have HS := Lib.hid hS
  have HC := Lib.hid hck
  have HG0 := Lib.hid (Blk'.new w 24 #[.int .i64 (m : Int), .int .i64 (n : Int), .int .i64 gs, .slice A rs.length c])
  have HB0 : Hid (Below w.heap.size w (w.alloc (.cells #[.int .i64 (m : Int), .int .i64 (n : Int), .int .i64 gs, .slice A rs.length c] 24))) := Lib.hid ((Below.refl _ _).alloc (Nat.le_refl _) _)
  clear hv hA hS hck hpi
  go_enter Tryd.func23, Tryd.ntmps23
  go_wp2_with fail
  refine (check_any ⟨(m : Int), (n : Int), gs, rs⟩ A c S _ hlc hc (HA.out.belowB HB0.out HS.out)).mono ?_
  rintro e w1 ⟨rfl, hb1⟩
  rw [HC.out]
  have HB1 := Lib.hid (bthen HB0.out hb1 HB0.out.size)
  have HG1 := Lib.hid (HG0.out.below hb1 (by simp))
  have a0 : w1.cell? ⟨w.heap.size, 0, none⟩ = some (.int .i64 (m : Int)) := HG1.out.cell 0
  have a1 : w1.cell? ⟨w.heap.size, 1, none⟩ = some (.int .i64 (n : Int)) := HG1.out.cell 1
  have a2 : w1.cell? ⟨w.heap.size, 2, none⟩ = some (.int .i64 gs) := HG1.out.cell 2
  have a3 : w1.cell? ⟨w.heap.size, 3, none⟩ = some (.slice A rs.length c) := HG1.out.cell 3
  have zG : w.heap.size < w1.heap.size := HG1.out.lt
  clear hb1
  go_wp2_with fail
  refine (passes_any ⟨(m : Int), (n : Int), gs, rs⟩ m n A c S w1 rfl rfl HC.out hlc hc (HA.out.belowB HB1.out HS.out) (fun b hb => by have := HS.out b hb; have := HB1.out.size; omega)).mono ?_
  rintro e w2 ⟨v, out, rfl, hpl, hown, hb2⟩
  obtain ⟨Ap, cp, rfl, hcp1, hcp2, _⟩ := hown.form
  have HP := Lib.hid hpl
  have HO := Lib.hid hown
  have HB2 := Lib.hid (bthen HB1.out hb2 HB1.out.size)
  have HG2 := Lib.hid (HG1.out.below hb2 HG1.out.lt)
  have HOl : Hid (out.length = rs.length) := Lib.hid hpl.1
  have hol9 : out.length ≤ 32 := by have := hpl.1; dsimp only at this; omega
  have zG2 : w.heap.size < w2.heap.size := HG2.out.lt
  clear a0 a1 a2 a3 hpl hown hb2
  go_wp2_with fail
  go_loopw [5, 21] (fun v i wr => LpO rs out w2 v i wr) (fun _ i _ => out.length - (intOf i).toNat)
  case atStart => exact ⟨0, [], Nat.zero_le _, rfl, Own.nil _ _ _ _, by simp, (fun a b => ⟨fun h => by simp at h, fun ⟨j, k, q, row, h1, h2, h3, _⟩ => by omega⟩), Below.refl _ _⟩
  case round =>
    obtain ⟨wo, hwo⟩ : ∃ wo : World, wo = wr := ⟨_, rfl⟩
    subst hwo
    obtain ⟨t, st, ht, rfl, hown, hsl, hst, hb⟩ := hrel
    obtain ⟨As, cs, rfl, hcs1, hcs2, _⟩ := hown.form
    have HOs := Lib.hid hown
    have HSt := Lib.hid hst
    have HSl := Lib.hid hsl
    have HB := Lib.hid hb
    have HG := Lib.hid (HG2.out.below hb HG2.out.lt)
    have a1 : wo.cell? ⟨w.heap.size, 1, none⟩ = some (.int .i64 (n : Int)) := HG.out.cell 1
    have zGo : w.heap.size < wo.heap.size := HG.out.lt
    clear hown hst hb hsl
    by_cases hlt : t < out.length
    · obtain ⟨row, hrow⟩ := get_some hlt
      obtain ⟨q, hq⟩ := get_some (show t < rs.length by rw [← HOl.out]; exact hlt)
      obtain ⟨bp, op, Ar, cr, rfl, hSp, hbp, hcr0, hcr1, hcr2, hEr⟩ := (HO.out.vl.els.2.2.2.below HB.out).rowS hrow
      have hpr := HP.out.2 t q row hq hrow
      have hr4 : row.length ≤ 4 := by have h1 := hpr.len; have h2 := (HV.out.rules q (List.mem_of_getElem? hq)).2.2.1; omega
      have HQ := Lib.hid (And.intro hq (And.intro hrow hpr))
      have HEr := Lib.hid hEr
      have ht0 : (0 : Int) ≤ (t : Int) := by omega
      clear hq hrow hpr hEr
      go_wp2_with fail
      clear hcr0
      go_loopw [5, 28] (fun v i wr => LpI rs out w2 t row.length v i wr) (fun _ i _ => row.length - (intOf i).toNat)
      case atStart => exact ⟨0, st, Nat.zero_le _, rfl, HOs.out, by have := HSl.out; omega, HSt.out, HB.out⟩
      case round =>
        obtain ⟨wz, hwz⟩ : ∃ wz : World, wz = wr := ⟨_, rfl⟩
        subst hwz
        obtain ⟨s, st2, hs, rfl, hown, hsl, hst, hb⟩ := hrel
        obtain ⟨Az, cz, rfl, hcz1, hcz2, _⟩ := hown.form
        have HOz := Lib.hid hown
        have HSz := Lib.hid hst
        have HSlz := Lib.hid hsl
        have HBz := Lib.hid hb
        have hGz := HG2.out.below hb HG2.out.lt
        have a3 : wz.cell? ⟨w.heap.size, 3, none⟩ = some (.slice A rs.length c) := hGz.cell 3
        have zGz : w.heap.size < wz.heap.size := hGz.lt
        clear hown hst hb hsl a1 hGz
        by_cases hsl : s < row.length
        · obtain ⟨x, hx⟩ := get_some hsl
          have hEz : Els wz (fun b => (False ∨ w1.heap.size ≤ b) ∧ b < w2.heap.size) row Ar := HEr.out.keep (fun p hp hlt => by rw [HBz.out.cell hp.2, HB.out.cell hp.2]) (fun b h => h)
          obtain ⟨br, or_, rfl, hSr, hbr, hxi, hxc⟩ := hEz.int hx
          obtain ⟨bq, oq, Aq, cq, rfl, hSb, hbs, hqi, hrc, hcr, hEr2, hc0, hc1⟩ := (HA.out.belowB (bthen HB2.out HBz.out HB2.out.size) HS.out).rule HQ.out.1
          have HHit := Lib.hid (StO.hit HQ.out.1 HQ.out.2.1 hx)
          have HI := Lib.hid (And.intro hqi hxi)
          obtain ⟨ql, qr⟩ := q
          dsimp only at hqi hrc hcr hEr2 hc0 hc1
          have hs0 : (0 : Int) ≤ (s : Int) := by omega
          have ht9 : (t : Int) < (rs.length : Int) := by have := HOl.out; omega
          have hcap1 : (st2.length + 1) * 16 ≤ 140737488355328 := by have := HSlz.out; omega
          have hcap2 : st2.length + 1 ≤ 9223372036854775807 := by have := HSlz.out; omega
          clear hx hEz hEr2 hqi hxi
          go_wp2_with (at_builtin; refine wpList_own1 _ rfl _ _ elemPair rfl rfl (HOz.out.alloc _) (ql, x) [.int .i64 ql, .int .i64 x] rfl (At.new _ _ _) ⟨rfl, HI.out.1, HI.out.2⟩ hcap1 hcap2 (Nat.le_trans HBz.out.size ((Below.refl _ _).alloc (Nat.le_refl _) _).size) ?_; intro v' w3 hown3 hg3 hat3; have H3 := Lib.hid (And.intro hown3 hg3); clear hown3 hg3 hat3)
          go_roundw
          case rel =>
            refine ⟨s + 1, st2 ++ [(ql, x)], hsl, by go_num, H3.out.1, by have := HSlz.out; rw [List.length_append]; simp; omega, fun a b => ?_, bgrown (HBz.out.alloc HBz.out.size _) H3.out.2 (HOz.out.alloc _) (Nat.le_refl _) (Nat.le_trans HBz.out.size ((Below.refl _ _).alloc (Nat.le_refl _) _).size)⟩
            rw [HHit.out a b, List.mem_append, HSz.out a b]
            simp
          case measure => simp [intOf]; omega
        · have hss : s = row.length := by omega
          have HNx : Hid (∀ a b, (a, b) ∈ st2 ↔ StO rs out (t + 1) 0 a b) := Lib.hid (fun a b => by rw [HSz.out a b, hss]; exact (StO.next HQ.out.2.1 a b).symm)
          go_wp2
          go_roundw
          case rel => exact ⟨t + 1, st2, hlt, by go_num, HOz.out, by have := HSlz.out; omega, HNx.out, HBz.out⟩
          case measure => simp [intOf]; omega
    · have htt : t = out.length := by omega
      have HAll : Hid (∀ a b, (a, b) ∈ st ↔ ∃ q ∈ rs, q.left = a ∧ PassN ⟨(m : Int), (n : Int), gs, rs⟩ q b) := Lib.hid (fun a b => by rw [HSt.out a b, htt]; exact StO.all HP.out a b)
      have HIn : Hid (∀ s ∈ st, (0 ≤ s.1 ∧ s.1 < (n : Int)) ∧ 0 ≤ s.2 ∧ s.2 < (n : Int)) := Lib.hid (fun s hs => by
        obtain ⟨q, hq, h1, h2⟩ := (HAll.out s.1 s.2).1 hs
        have h3 := HPI.out.left q hq
        have h4 := HPI.out.tos q hq _ h2
        omega)
      have HEls := Lib.hid HOs.out.vl.els.2.2.2
      have hsm : st.length ≤ 1000000 := by have := HSl.out; omega
      go_wp2_with fail
      clear htt hlt ht
      refine (closure_any n st As cs _ wo hn hsm HEls.out (fun b hb => hb.2) HIn.out).mono ?_
      rintro e w3 ⟨bf, bs, f, rfl, hR, hG, hge, hb3⟩
      have HR := Lib.hid hR
      have HGt : Hid (∀ a, a < n → (Gt f a a ↔ Plus (PassE ⟨(m : Int), (n : Int), gs, rs⟩) a a)) := Lib.hid (fun a ha => by
        rw [hG a a ha ha]
        have e : StepR st = PassE ⟨(m : Int), (n : Int), gs, rs⟩ := by
          funext a b
          exact propext (HAll.out a b)
        rw [e])
      have HB3 := Lib.hid (bthen (bthen HB2.out HB.out HB2.out.size) hb3 (by have := HB.out.size; have := HB2.out.size; omega))
      have HG3 := Lib.hid (HG.out.below hb3 HG.out.lt)
      have a1 : w3.cell? ⟨w.heap.size, 1, none⟩ = some (.int .i64 (n : Int)) := HG3.out.cell 1
      have zG3 : w.heap.size < w3.heap.size := HG3.out.lt
      clear hR hG hge hb3 HAll HIn HEls
      go_wp2_with fail
      go_loopw [11, 51] (fun v i wr => LpL ⟨(m : Int), (n : Int), gs, rs⟩ n w3 v i wr) (fun _ i _ => n - (intOf i).toNat)
      case atStart => exact ⟨0, [], Nat.zero_le _, rfl, Own.nil _ _ _ _, rfl, (fun j hj => by omega), Below.refl _ _⟩
      case round =>
        obtain ⟨wa, hwa⟩ : ∃ wa : World, wa = wr := ⟨_, rfl⟩
        subst hwa
        obtain ⟨k, l, hk, rfl, hown, hll, hl, hb⟩ := hrel
        obtain ⟨Al, cl, rfl, hcl1, hcl2, _⟩ := hown.form
        have HOa := Lib.hid hown
        have HL := Lib.hid hl
        have HLl := Lib.hid hll
        have HBa := Lib.hid hb
        have HRa := Lib.hid (HR.out.below hb)
        clear hown hl hb hll a1
        by_cases hkn : k < n
        · have hk0 : (0 : Int) ≤ (k : Int) := by omega
          have hk9 : (k : Int) < (n : Int) := by omega
          obtain ⟨bk, hbk⟩ := get_some (show k < bs.length by rw [HRa.out.blen]; exact hkn)
          obtain ⟨rk, hrk1, hrk2, hrk3⟩ := (WarS.ofRows HRa.out).get hkn
          obtain ⟨x, hx⟩ := get_some (show k < rk.length by omega)
          have c0 : wa.cell? ⟨bf, k, none⟩ = some (.slice (some ⟨bk, 0, none⟩) n n) := HRa.out.outer k bk hbk
          have c1 : wa.cell? ⟨bk, k, none⟩ = some (.bool x) := ((HRa.out.rows k bk rk hbk hrk1).1.cell _).trans (bcells_get hx)
          have zf := HRa.out.bflt
          have zk := (HRa.out.rows k bk rk hbk hrk1).1.lt
          have HX : Hid (x = true ↔ Plus (PassE ⟨(m : Int), (n : Int), gs, rs⟩) k k) := Lib.hid (by
            rw [← HGt.out k hkn]
            unfold Gt
            rw [hrk2, hx]
            simp)
          have hcap1 : (l.length + 1) * 1 ≤ 140737488355328 := by have := HLl.out; omega
          have hcap2 : l.length + 1 ≤ 9223372036854775807 := by have := HLl.out; omega
          clear hbk hrk1 hrk2 hrk3 hx
          go_wp2_with (at_builtin; refine wpList_own1 _ rfl _ _ elemBool rfl rfl (HOa.out.alloc _) x [.bool x] rfl (At.new _ _ _) rfl hcap1 hcap2 (Nat.le_trans HBa.out.size ((Below.refl _ _).alloc (Nat.le_refl _) _).size) ?_; intro v' w4 hown3 hg3 hat3; have H3 := Lib.hid (And.intro hown3 hg3); clear hown3 hg3 hat3)
          go_roundw
          case rel =>
            refine ⟨k + 1, l ++ [x], hkn, by go_num, H3.out.1, by rw [List.length_append, HLl.out]; rfl, fun j hj => ?_, bgrown (HBa.out.alloc HBa.out.size _) H3.out.2 (HOa.out.alloc _) (Nat.le_refl _) (Nat.le_trans HBa.out.size ((Below.refl _ _).alloc (Nat.le_refl _) _).size)⟩
            rcases Nat.lt_or_ge j k with hjk | hjk
            · rw [List.getElem?_append_left (by rw [HLl.out]; exact hjk)]
              exact HL.out j hjk
            · have e : j = k := by omega
              subst e
              rw [List.getElem?_append_right (by rw [HLl.out]; exact Nat.le_refl _), HLl.out]
              simp
              exact HX.out
          case measure => simp [intOf]; omega
        · have hkk : k = n := by omega
          have HFin : Hid (LoopL ⟨(m : Int), (n : Int), gs, rs⟩ n l) := Lib.hid ⟨by rw [HLl.out, hkk], fun j hj => HL.out j (by omega)⟩
          go_wp2
          go_ret2
          exact ⟨_, l, rfl, HFin.out, HOa.out.base HB3.out.size, bthen HB3.out HBa.out HB3.out.size⟩
end Go.Proofs.YtjdojogjogenkaaDoor
