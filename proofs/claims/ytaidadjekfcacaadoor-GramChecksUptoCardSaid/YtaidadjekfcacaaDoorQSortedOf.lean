/- Contract: parlref2.SortedOf of a valid grammar. -/
import Derived.Test.YtaidadjekfcacaaDoorQSortedOfP
import Derived.Test.YtaidadjekfcacaaDoorQOrdersQ
import Derived.Test.YtaidadjekfcacaaDoorQBefore
import Derived.Test.YtaidadjekfcacaaDoorQp1
import Derived.Test.YtaidadjekfcacaaDoorQValid
import Derived.Deep.Cut
namespace Go.Proofs.YtaidadjekfcacaaDoor
open Go.RowKit
set_option linter.unusedVariables false

theorem valid_small {g : Gram} (hv : ValidG g) : ∀ q ∈ g.rules, SmallQ q.right := by
  intro q hq s hs
  have h1 := hv.t8; have h2 := hv.n10
  have k := (hv.rules q hq).2.2.2 s hs
  split at k <;> omega
def SoO (rs : List Rule) (ys : List Int) (t n s : Int) (A : Option Addr) (c : Nat) (w : World) (i : Value) (wr : World) : Prop :=
  ∃ m : Nat, m ≤ rs.length ∧ i = .int .i64 m ∧ Blk' wr (w.heap.size + 1) 3 (icells (oldM ys m)) ∧ Blk' wr w.heap.size 25 #[.int .i64 t, .int .i64 n, .int .i64 s, .slice A rs.length c] ∧ Below w.heap.size w wr
def SoI (rs : List Rule) (r : Rule) (wi : World) (i k : Value) (wr : World) : Prop :=
  ∃ j : Nat, j ≤ rs.length ∧ i = .int .i64 j ∧ k = .int .i64 (cntB ltRule (rs.take j) r : Nat) ∧ Below wi.heap.size wi wr

set_option maxRecDepth 100000 in
set_option maxHeartbeats 4000000 in
theorem sortedOf_any (t n s : Int) (rs : List Rule) (ys : List Int) (A : Option Addr) (c : Nat) (Sr : Nat → Prop) (w : World) (hrl : rs.length ≤ 32) (hsm : ∀ q ∈ rs, SmallQ q.right) (hrr : ∀ q ∈ rs, q.right.length ≤ 1000) (hp : ys.Perm (idxL rs.length)) (hz : (ys.map (ruleAt rs)).Pairwise (fun a b => ltRule a b = true)) (hzp : (ys.map (ruleAt rs)).Perm rs) (hlc : rs.length ≤ c) (hc : c ≤ 9223372036854775807) (hA : Els w Sr rs A) (hSr : ∀ b, Sr b → b < w.heap.size) :
    Calls Tryd.prog 48 #[.agg #[.int .i64 t, .int .i64 n, .int .i64 s, .slice A rs.length c]] w fun e w' => e = .returned (.slice (some ⟨w.heap.size + 1, 0, none⟩) rs.length rs.length) ∧ Blk' w' (w.heap.size + 1) 3 (icells ys) ∧ Below w.heap.size w w' := by
  have hl : ys.length = rs.length := by rw [hp.length_eq, idxL_len]
  obtain ⟨w1, hw1⟩ : ∃ w1 : World, w1 = (w.alloc (.cells #[.int .i64 t, .int .i64 n, .int .i64 s, .slice A rs.length c] 25)).alloc (.cells (icells (List.replicate rs.length 0)) 3) := ⟨_, rfl⟩
  have HW1 := Lib.hid hw1
  have hb1 : Below w.heap.size w w1 := by rw [hw1]; exact ((Below.refl _ _).alloc (Nat.le_refl _) _).alloc (by simp) _
  have hG1 : Blk' w1 w.heap.size 25 #[.int .i64 t, .int .i64 n, .int .i64 s, .slice A rs.length c] := by rw [hw1]; exact (Blk'.new w _ _).alloc _
  have hO1 : Blk' w1 (w.heap.size + 1) 3 (icells (oldM ys 0)) := by rw [oldM_zero hp, hw1]; exact Blk'.new' _ _ _ (by simp)
  have HG1 := Lib.hid hG1
  have HO1 := Lib.hid hO1
  have HB1 := Lib.hid hb1
  have HA := Lib.hid hA
  have HS := Lib.hid hSr
  have HSm := Lib.hid hsm
  have HRr := Lib.hid hrr
  have HP := Lib.hid (And.intro hp (And.intro hz hzp))
  have HL := Lib.hid hl
  have hmk := mkInts rs.length (by omega)
  have g3 : w1.cell? ⟨w.heap.size, 3, none⟩ = some (.slice A rs.length c) := hG1.cell 3
  have zG : w.heap.size < w1.heap.size := hG1.lt
  clear hw1 hb1 hG1 hO1 hA hSr hsm hrr hp hz hzp hl
  go_enter Tryd.func48, Tryd.ntmps48
  go_upto_region 2 with (fail)
  rw [← HW1.out]
  clear hmk
  go_wp2_with fail
  go_loopw [16] (fun i wr => SoO rs ys t n s A c w i wr) (fun i _ => rs.length - (intOf i).toNat)
  case atStart => exact ⟨0, Nat.zero_le _, rfl, HO1.out, HG1.out, HB1.out⟩
  case round =>
    obtain ⟨wo, hwo⟩ : ∃ wo : World, wo = wr := ⟨_, rfl⟩
    subst hwo
    obtain ⟨m, hm, rfl, hO, hG, hb⟩ := hrel
    have HO := Lib.hid hO
    have HG := Lib.hid hG
    have HB := Lib.hid hb
    have hzo : w.heap.size + 1 < wo.heap.size := hO.lt
    clear hO hG hb g3 zG
    by_cases hlt : m < rs.length
    · obtain ⟨q, hq⟩ := get_some hlt
      obtain ⟨bq, oq, Aq, cq, eA, hSb, hbs, hqi, hrc, hcr, hEr, hc0, hc1⟩ := (HA.out.belowB HB.out HS.out).rule hq
      subst eA
      have HQm := Lib.hid (List.mem_of_getElem? hq)
      have HPl := Lib.hid (place_cnt HP.out.1 HP.out.2.1 HP.out.2.2 hq)
      obtain ⟨ql, qr⟩ := q
      dsimp only at hqi hrc hcr hEr hc0 hc1
      obtain ⟨w5, hw5⟩ : ∃ w5 : World, w5 = wo.alloc (.cells #[.int .i64 ql, .slice Aq qr.length cq] 61) := ⟨_, rfl⟩
      have HW5 := Lib.hid hw5
      have hb5 : Below wo.heap.size wo w5 := by rw [hw5]; exact (Below.refl _ _).alloc (Nat.le_refl _) _
      have HB5 := Lib.hid hb5
      have HX5 : Hid (Blk' w5 wo.heap.size 61 #[.int .i64 ql, .slice Aq qr.length cq]) := Lib.hid (by rw [hw5]; exact Blk'.new wo _ _)
      have HE5 := Lib.hid (hEr.below hb5)
      have hG5 := HG.out.below hb5 HG.out.lt
      have HG5 := Lib.hid hG5
      have HBt := Lib.hid (bthen HB.out hb5 HB.out.size)
      have g3 : w5.cell? ⟨w.heap.size, 3, none⟩ = some (.slice (some ⟨bq, oq, none⟩) rs.length c) := hG5.cell 3
      have zG : w.heap.size < w5.heap.size := hG5.lt
      have hm0 : (0 : Int) ≤ (m : Int) := by omega
      have hm1 : (m : Int) < (rs.length : Int) := by omega
      have HC := Lib.hid (And.intro hqi (And.intro hrc hcr))
      clear hw5 hb5 hG5 hq hSb hqi hrc hcr hEr
      go_upto_region 5 with (fail)
      rw [← HW5.out]
      clear hc0 hc1
      go_wp2_with fail
      go_loopw [24, 6] (fun i k wr => SoI rs ⟨ql, qr⟩ w5 i k wr) (fun i _ _ => rs.length - (intOf i).toNat)
      case atStart => exact ⟨0, Nat.zero_le _, rfl, rfl, Below.refl _ _⟩
      case round =>
        obtain ⟨wp, hwp⟩ : ∃ wp : World, wp = wr := ⟨_, rfl⟩
        subst hwp
        obtain ⟨j, hj, rfl, rfl, hbj⟩ := hrel
        have HBj := Lib.hid hbj
        have HBjt := Lib.hid (bthen HBt.out hbj HBt.out.size)
        have HXj := Lib.hid (HX5.out.below hbj HX5.out.lt)
        have HEj := Lib.hid (HE5.out.below hbj)
        have z5 : w5.heap.size ≤ wp.heap.size := hbj.size
        clear hbj g3 zG
        by_cases hlt2 : j < rs.length
        · obtain ⟨p, hpj⟩ := get_some hlt2
          obtain ⟨bp, op, Ap, cp, eA, hSb, hbs2, hqi, hrc, hcr, hEr, hc0, hc1⟩ := (HA.out.belowB HBjt.out HS.out).rule hpj
          injection eA with eA
          injection eA with e1 e2 _
          subst e1; subst e2
          have HPm := Lib.hid (List.mem_of_getElem? hpj)
          have HSn := Lib.hid (cntB_snoc (lt := ltRule) (r := ⟨ql, qr⟩) hpj)
          obtain ⟨pl, pr⟩ := p
          dsimp only at hqi hrc hcr hEr hc0 hc1
          obtain ⟨w6, hw6⟩ : ∃ w6 : World, w6 = wp.alloc (.cells #[.int .i64 pl, .slice Ap pr.length cp] 61) := ⟨_, rfl⟩
          have HW6 := Lib.hid hw6
          have hb6 : Below wp.heap.size wp w6 := by rw [hw6]; exact (Below.refl _ _).alloc (Nat.le_refl _) _
          have hX6 : Blk' w6 wp.heap.size 61 #[.int .i64 pl, .slice Ap pr.length cp] := by rw [hw6]; exact Blk'.new wp _ _
          have hX56 := HXj.out.below hb6 HXj.out.lt
          have HE6 := Lib.hid (((hEr.below hb6).keep (S' := fun b => b < w6.heap.size) (fun _ _ _ => rfl) (fun b hb => by have h1 := HS.out b hb; have h2 := HBjt.out.size; have h3 := hb6.size; omega)))
          have HE56 := Lib.hid (((HEj.out.below hb6).keep (S' := fun b => b < w6.heap.size) (fun _ _ _ => rfl) (fun b hb => by have h1 := HS.out b hb; have h2 := HBjt.out.size; have h3 := hb6.size; omega)))
          have HB6 := Lib.hid (bthen HBj.out hb6 HBj.out.size)
          have x0 : w6.cell? ⟨wp.heap.size, 0, none⟩ = some (.int .i64 pl) := hX6.cell 0
          have x1 : w6.cell? ⟨wp.heap.size, 1, none⟩ = some (.slice Ap pr.length cp) := hX6.cell 1
          have y0 : w6.cell? ⟨wo.heap.size, 0, none⟩ = some (.int .i64 ql) := hX56.cell 0
          have y1 : w6.cell? ⟨wo.heap.size, 1, none⟩ = some (.slice Aq qr.length cq) := hX56.cell 1
          have zX6 := hX6.lt
          have zX56 := hX56.lt
          have hj0 : (0 : Int) ≤ (j : Int) := by omega
          have hj1 : (j : Int) < (rs.length : Int) := by omega
          have HLt : Hid (ruleLt ⟨pl, pr⟩ ⟨ql, qr⟩ = ltRule ⟨pl, pr⟩ ⟨ql, qr⟩) := Lib.hid (ruleLt_lt (HSm.out _ HPm.out) (HSm.out _ HQm.out))
          have hcl : cntB ltRule (rs.take j) ⟨ql, qr⟩ ≤ 32 := by have h1 := cntB_le ltRule (rs.take j) ⟨ql, qr⟩; rw [List.length_take] at h1; omega
          clear hw6 hb6 hX6 hX56 hpj hSb hqi hrc hcr hEr
          go_upto_region 9 with (fail)
          rw [← HW6.out]
          clear hc0 hc1
          go_wp2_with fail
          refine (before_any pl ql Ap Aq cp cq pr qr _ _ (by have := HRr.out _ HPm.out; dsimp only at this; omega) (by have := HRr.out _ HQm.out; dsimp only at this; omega) HE6.out HE56.out (fun s hs => by have := HSm.out _ HPm.out s hs; omega) (fun s hs => by have := HSm.out _ HQm.out s hs; omega)).mono ?_
          rintro e w7 ⟨rfl, hb7⟩
          rw [HLt.out]
          have HB7 := Lib.hid (bthen HB6.out hb7 HB6.out.size)
          clear hb7 x0 x1 y0 y1
          cases hlt3 : ltRule ⟨pl, pr⟩ ⟨ql, qr⟩
          · go_wp2_with fail
            go_roundw
            case rel => exact ⟨j + 1, hlt2, by go_num, by rw [HSn.out, hlt3]; rfl, HB7.out⟩
            case measure => simp [intOf]; omega
          · go_wp2_with fail
            go_roundw
            case rel => exact ⟨j + 1, hlt2, by go_num, by rw [HSn.out, hlt3]; go_num, HB7.out⟩
            case measure => simp [intOf]; omega
        · have hjj : j = rs.length := by omega
          have HCn : Hid (cntB ltRule (rs.take j) ⟨ql, qr⟩ = cntB ltRule rs ⟨ql, qr⟩) := Lib.hid (by rw [hjj, List.take_length])
          obtain ⟨k, hk⟩ : ∃ k, k = cntB ltRule (rs.take j) ⟨ql, qr⟩ := ⟨_, rfl⟩
          have HK : Hid (ys[k]? = some (m : Int) ∧ k < ys.length) := Lib.hid (by rw [hk, HCn.out]; exact HPl.out)
          rw [← hk]
          clear hk hjj
          have hkl : k < rs.length := by have h1 := HK.out.2; have h2 := HL.out; omega
          have hOj := HO.out.below ((HB5.out).trans (HBj.out.mono HB5.out.size)) HO.out.lt
          have HOj := Lib.hid hOj
          have HGj := Lib.hid (HG5.out.below HBj.out HG5.out.lt)
          obtain ⟨v, hv⟩ := get_some (xs := oldM ys m) (k := k) (by rw [oldM_len]; exact HK.out.2)
          have o0 : wp.cell? ⟨w.heap.size + 1, k, none⟩ = some (.int .i64 v) := by rw [hOj.cell]; exact icells_get hv
          have f0 := hOj.frozen k
          have zO := hOj.lt
          have hk0 : (0 : Int) ≤ (k : Int) := by omega
          have hk1 : (k : Int) < (rs.length : Int) := by omega
          have hj1 : ¬ (j : Int) < (rs.length : Int) := by omega
          clear hOj hv
          go_wp2_with fail
          go_roundw
          case rel =>
            refine ⟨m + 1, hlt, by go_num, ?_, HGj.out.far (p := ⟨w.heap.size + 1, k, none⟩) (by show w.heap.size ≠ w.heap.size + 1; omega) _, HBjt.out.setCell (p := ⟨w.heap.size + 1, k, none⟩) (by show w.heap.size ≤ w.heap.size + 1; omega) _⟩
            have h := HOj.out.set_ k (.int .i64 (m : Int))
            rw [icells_set, oldM_step HP.out.1 HK.out.1] at h
            exact h
          case measure => simp [intOf]; omega
    · have hmm : m = rs.length := by omega
      have HF : Hid (Blk' wo (w.heap.size + 1) 3 (icells ys)) := Lib.hid (by have h := HO.out; rw [hmm, oldM_all HP.out.1] at h; exact h)
      have hm1 : ¬ (m : Int) < (rs.length : Int) := by omega
      clear hmm
      go_wp2_with fail
      go_ret
      exact ⟨rfl, HF.out, HB.out⟩
end Go.Proofs.YtaidadjekfcacaaDoor
