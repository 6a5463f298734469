/- Contracts: parlref2.TrimOf and its predicate: the nonterminals and rules that remain. -/
import Derived.Test.YtbboceklkjfimaaDoorQRLen
import Derived.Test.YtbboceklkjfimaaDoorQRRea
import Derived.Test.YtbboceklkjfimaaDoorQTrim
namespace Go.Proofs.YtbboceklkjfimaaDoor
open Go.RowKit
set_option linter.unusedVariables false

/-- The table of lengths with cells behind it, in its box. -/
def LBoxS (w : World) (B L n c : Nat) (l : List Int) (z : Array Value) : Prop := Blk' w B 57 #[.slice (some ⟨L, 0, none⟩) n c] ∧ Blk' w L 3 (icells l ++ z) ∧ l.length = n
theorem LBoxS.below {w w' : World} {B L n c : Nat} {l : List Int} {z : Array Value} (h : LBoxS w B L n c l z) (hb : Below w.heap.size w w') : LBoxS w' B L n c l z := ⟨h.1.below hb h.1.lt, h.2.1.below hb h.2.1.lt, h.2.2⟩
def GdL (l : List Int) (qr : List Sym) (w : World) (i : Value) (wr : World) : Prop :=
  ∃ m : Nat, m ≤ qr.length ∧ i = .int .i64 m ∧ (∀ y ∈ qr.take m, y.term = false → 0 ≤ l.getD y.n.toNat 0) ∧ Below w.heap.size w wr

set_option maxRecDepth 100000 in
set_option maxHeartbeats 1000000 in
theorem rgood_any (B L n cl : Nat) (l : List Int) (z : Array Value) (q : Rule) (A : Option Addr) (c : Nat) (S : Nat → Prop) (w : World) (h : LBoxS w B L n cl l z) (hn : n ≤ 1000000) (hq : ∀ x ∈ q.right, 0 ≤ x.n ∧ (x.term = false → x.n.toNat < n)) (hlc : q.right.length ≤ c) (hc : c ≤ 9223372036854775807) (hA : Els w S q.right A) :
    Calls Tryd.prog 79 #[.agg #[.int .i64 q.left, .slice A q.right.length c], .pointer (some ⟨B, 0, none⟩)] w fun e w' => e = .returned (.bool (useB l q)) ∧ Below w.heap.size w w' := by
  obtain ⟨ql, qr⟩ := q
  dsimp only at *
  have hba : Below w.heap.size w (w.alloc (.cells #[.int .i64 ql, .slice A qr.length c] 72)) := (Below.refl _ _).alloc (Nat.le_refl _) _
  have HBa := Lib.hid hba
  have HA := Lib.hid (hA.below hba)
  have HL := Lib.hid (h.below hba)
  have HQ := Lib.hid hq
  have HU := Lib.hid (useB_iff l ⟨ql, qr⟩)
  have hm9 : qr.length ≤ 9223372036854775807 := by omega
  clear hba hA h hq
  go_enter Tryd.func79, Tryd.ntmps79
  go_wp2_with fail
  go_loopw [9] (fun i wr => GdL l qr (w.alloc (.cells #[.int .i64 ql, .slice A qr.length c] 72)) i wr) (fun i _ => qr.length - (intOf i).toNat)
  case atStart => exact ⟨0, Nat.zero_le _, rfl, by simp, Below.refl _ _⟩
  case round =>
    obtain ⟨wz, hwz⟩ : ∃ wz : World, wz = wr := ⟨_, rfl⟩
    subst hwz
    obtain ⟨m, hm, rfl, hall, hb⟩ := hrel
    have HAll := Lib.hid hall
    have HB := Lib.hid hb
    clear hall hb
    by_cases hml : m < qr.length
    · obtain ⟨y, hy⟩ := get_some hml
      have Hts := Lib.hid (take_snoc hy)
      have HYm := Lib.hid (List.mem_of_getElem? hy)
      have hsr := HQ.out y (List.mem_of_getElem? hy)
      obtain ⟨yt, yn⟩ := y
      have HBn : Hid (∀ o : Obj, Below (w.alloc (.cells #[.int .i64 ql, .slice A qr.length c] 72)).heap.size (w.alloc (.cells #[.int .i64 ql, .slice A qr.length c] 72)) (wz.alloc o)) := Lib.hid (fun o => HB.out.alloc HB.out.size o)
      obtain ⟨by_, oy, rfl, hSy, hbsy, hyi, hyc0, hyc1⟩ := (HA.out.below HB.out).sym hy
      have hLz := HL.out.below HB.out
      have b0 : wz.cell? ⟨B, 0, none⟩ = some (.slice (some ⟨L, 0, none⟩) n cl) := hLz.1.cell 0
      have zB := hLz.1.lt
      have zL := hLz.2.1.lt
      have HLz := Lib.hid hLz
      dsimp only at hyi hyc0 hyc1 hsr
      have hm0 : (0 : Int) ≤ (m : Int) := by omega
      have hsn := hsr.1
      clear hy hyi hLz
      cases yt
      · have hs1 := hsr.2 rfl
        have hs2 : yn < (n : Int) := by omega
        obtain ⟨v, hv⟩ := get_some (show yn.toNat < l.length by have := HLz.out.2.2; omega)
        have cv : wz.cell? ⟨L, yn.toNat, none⟩ = some (.int .i64 v) := (HLz.out.2.1.cell _).trans ((slack_get (by rw [icells_size, HLz.out.2.2]; exact hs1)).trans (icells_get hv))
        have hgd : l.getD yn.toNat 0 = v := by rw [List.getD_eq_getElem?_getD, hv]; rfl
        have HG := Lib.hid hgd
        clear hv hsr hgd
        by_cases hv0 : v < 0
        · have HE := Lib.hid (show useB l ⟨ql, qr⟩ = false by
            cases hu : useB l ⟨ql, qr⟩
            · rfl
            · have h1 := HU.out.1 hu ⟨false, yn⟩ HYm.out rfl
              rw [HG.out] at h1
              omega)
          go_wp2
          go_ret
          exact ⟨ret_bool HE.out.symm, bthen HBa.out (HBn.out _) HBa.out.size⟩
        · have hv1 : 0 ≤ v := by omega
          go_wp2
          go_roundw
          case rel =>
            refine ⟨m + 1, hml, by go_num, ?_, HBn.out _⟩
            intro y' hy' ht'
            rw [Hts.out] at hy'
            rcases List.mem_append.1 hy' with hy' | hy'
            · exact HAll.out y' hy' ht'
            · simp at hy'; subst hy'; rw [HG.out]; exact hv1
          case measure => simp [intOf]; omega
      · clear hsr
        go_wp2
        go_roundw
        case rel =>
          refine ⟨m + 1, hml, by go_num, ?_, HBn.out _⟩
          intro y' hy' ht'
          rw [Hts.out] at hy'
          rcases List.mem_append.1 hy' with hy' | hy'
          · exact HAll.out y' hy' ht'
          · simp at hy'; subst hy'; cases ht'
        case measure => simp [intOf]; omega
    · have HE := Lib.hid (show useB l ⟨ql, qr⟩ = true from HU.out.2 (fun y hy ht => HAll.out y (by rw [List.take_of_length_le (by omega)]; exact hy) ht))
      go_wp2
      go_ret
      exact ⟨ret_bool HE.out.symm, bthen HBa.out HB.out HBa.out.size⟩

def RetRTrim (g : Gram) (n : Nat) (L : List Int) (w : World) (e : Ending) (w' : World) : Prop :=
  ∃ s vn vr, RSet g (useB L) n s ∧ e = .returned (.tuple #[vn, vr]) ∧ Own w' (fun _ => False) w.heap.size 3 vn (trueFrom 0 s) ∧ Own w' (fun _ => False) w.heap.size 3 vr (whereFrom (stayB L s) 0 g.rules) ∧ Below w.heap.size w w'
def RtL1 (s : List Bool) (n B : Nat) (w4 : World) (v i : Value) (wr : World) : Prop :=
  ∃ (k : Nat) (out : List Int), k ≤ n ∧ i = .int .i64 k ∧ trueFrom 0 s = out ++ trueFrom k (s.drop k) ∧ out.length ≤ k ∧ Own wr (fun _ => False) B 3 v out ∧ Below w4.heap.size w4 wr
def RtL2 (g : Gram) (l : List Int) (s : List Bool) (vn : Value) (nons : List Int) (B0 B : Nat) (w5 : World) (v i : Value) (wr : World) : Prop :=
  ∃ (k : Nat) (out : List Int), k ≤ g.rules.length ∧ i = .int .i64 k ∧ whereFrom (stayB l s) 0 g.rules = out ++ whereFrom (stayB l s) k (g.rules.drop k) ∧ out.length ≤ k ∧ Own wr (fun _ => False) B 3 v out ∧ Below w5.heap.size w5 wr

set_option maxRecDepth 100000 in
set_option maxHeartbeats 4000000 in
theorem rtrimOf_any (g : Gram) (n : Nat) (A : Option Addr) (c : Nat) (S : Nat → Prop) (w : World) (L : List Int) (hgn : g.nons = (n : Int)) (hn : 1 ≤ n ∧ n ≤ 10) (hgs : 0 ≤ g.start ∧ g.start.toNat < n) (hlc : g.rules.length ≤ c) (hc : c ≤ 9223372036854775807) (hA : Els w S g.rules A) (hS : ∀ b, S b → b < w.heap.size)
    (hrl : g.rules.length ≤ 1000) (hrr : RulesIn g n) (hL : LFix g n L) :
    Calls Tryd.prog 31 #[.agg #[.int .i64 g.terms, .int .i64 g.nons, .int .i64 g.start, .slice A g.rules.length c]] w (RetRTrim g n L w) := by
  obtain ⟨gt, gn, gs, rs⟩ := g
  dsimp only at *
  subst hgn
  have HA := Lib.hid hA
  have HS := Lib.hid hS
  have HRR := Lib.hid hrr
  have HL := Lib.hid hL
  have HN := Lib.hid hn
  have HGs := Lib.hid hgs
  have hn10 : (n : Int) ≤ 10 := by omega
  have hn11 : n ≤ 10 := hn.2
  have hll : L.length = n := hL.shape.len
  have hrl9 : rs.length ≤ 9223372036854775807 := by omega
  have hba : Below w.heap.size w (w.alloc (.cells #[.int .i64 gt, .int .i64 (n : Int), .int .i64 gs, .slice A rs.length c] 35)) := (Below.refl _ _).alloc (Nat.le_refl _) _
  have HBa := Lib.hid hba
  have HGb := Lib.hid (Blk'.new w 35 #[.int .i64 gt, .int .i64 (n : Int), .int .i64 gs, .slice A rs.length c])
  clear hA hS hrr hL hn hgs hba
  go_enter Tryd.func31, Tryd.ntmps31
  go_wp2_with fail
  refine (rlengths_any ⟨gt, (n : Int), gs, rs⟩ n A c S _ L rfl HN.out hlc hc (HA.out.below HBa.out) (fun b hb => by have := HS.out b hb; simp; omega) hrl HRR.out HL.out).mono ?_
  rintro e w1 ⟨Lb, cl, z, rfl, hLb, hcl1, hcl2, hLge, hb1⟩
  have hLw : w.heap.size < Lb := by simp at hLge; omega
  have HB1 := Lib.hid (bthen HBa.out hb1 (by simp))
  obtain ⟨w2, hw2⟩ : ∃ w2 : World, w2 = w1.alloc (.cells #[.slice (some ⟨Lb, 0, none⟩) n cl] 57) := ⟨_, rfl⟩
  have hb2 : Below w1.heap.size w1 w2 := by rw [hw2]; exact (Below.refl _ _).alloc (Nat.le_refl _) _
  have HLB : Hid (LBoxS w2 w1.heap.size Lb n cl L z) := Lib.hid ⟨by rw [hw2]; exact Blk'.new _ _ _, hLb.below hb2 hLb.lt, hll⟩
  have hG2 := (HGb.out.below hb1 HGb.out.lt).below hb2 (HGb.out.below hb1 HGb.out.lt).lt
  have HG2 := Lib.hid hG2
  have HB2 := Lib.hid (bthen HB1.out hb2 HB1.out.size)
  have HW2 := Lib.hid hw2
  have g0 : w2.cell? ⟨w.heap.size, 0, none⟩ = some (.int .i64 gt) := hG2.cell 0
  have g1 : w2.cell? ⟨w.heap.size, 1, none⟩ = some (.int .i64 (n : Int)) := hG2.cell 1
  have g2 : w2.cell? ⟨w.heap.size, 2, none⟩ = some (.int .i64 gs) := hG2.cell 2
  have g3 : w2.cell? ⟨w.heap.size, 3, none⟩ = some (.slice A rs.length c) := hG2.cell 3
  have zG2 := hG2.lt
  have hz1 : w.heap.size < w1.heap.size := by have := hb1.size; simp at this; omega
  have hz2 : w1.heap.size < w2.heap.size := by rw [hw2]; simp
  clear hb1 hb2 hLb hG2 HGb hw2 hLge
  go_upto_region 2 with (fail)
  rw [← HW2.out]
  go_wp2_with fail
  refine (rreached_any ⟨gt, (n : Int), gs, rs⟩ (useB L) _ #[.pointer (some ⟨w1.heap.size, 0, none⟩)] n A c S _ rfl (by omega) HGs.out hlc hc (HA.out.belowB HB2.out HS.out) (fun b hb => by have := HS.out b hb; have := HB2.out.size; omega) HRR.out (isGo_of Tryd.func79 (by kernel_rfl) (by kernel_rfl)) (fun x W hx hW A' c' k1 k2 k3 => rgood_any w1.heap.size Lb n cl L z x A' c' S W (HLB.out.below hW) (by omega) (fun y hy => (HRR.out x hx).2.2.2 y hy) k1 k2 k3)).mono ?_
  rintro e w3 ⟨Rb, s, rfl, hset, hRb, hRge, hb3⟩
  have HSet := Lib.hid hset
  have hsl : s.length = n := hset.1
  have HR3 := Lib.hid hRb
  have HB3 := Lib.hid (bthen HB2.out hb3 HB2.out.size)
  have HG3 := Lib.hid (HG2.out.below hb3 HG2.out.lt)
  have HLB3 := Lib.hid (HLB.out.below hb3)
  have zR3 := hRb.lt
  have hz3 := hb3.size
  clear hset hRb hb3 g0 g1 g2 g3 HG2 HB2 HLB
  go_wp2_with fail
  go_loopw [7, 20] (fun v i wr => RtL1 s n w3.heap.size w3 v i wr) (fun _ i _ => n - (intOf i).toNat)
  case atStart => exact ⟨0, [], Nat.zero_le _, rfl, by simp, by simp, Own.nil _ _ _ _, Below.refl _ _⟩
  case round =>
    obtain ⟨wo, hwo⟩ : ∃ wo : World, wo = wr := ⟨_, rfl⟩
    subst hwo
    obtain ⟨k, out, hk, rfl, htf, hol, hown, hb⟩ := hrel
    have HO := Lib.hid hown
    have HB := Lib.hid hb
    have HTf := Lib.hid htf
    have hRo := HR3.out.below HB.out HR3.out.lt
    have HRo := Lib.hid hRo
    have hGo := HG3.out.below HB.out HG3.out.lt
    have HGo := Lib.hid hGo
    have g3 : wo.cell? ⟨w.heap.size, 3, none⟩ = some (.slice A rs.length c) := hGo.cell 3
    have zGo := hGo.lt
    have zRo := hRo.lt
    clear hown hb htf hRo hGo
    by_cases hkn : k < n
    · obtain ⟨x, hx⟩ := get_some (show k < s.length by omega)
      have hk0 : (0 : Int) ≤ (k : Int) := by omega
      have hk9 : (k : Int) < (n : Int) := by omega
      have rx : wo.cell? ⟨Rb, k, none⟩ = some (.bool x) := (HRo.out.cell _).trans (bcells_get hx)
      have HTc := Lib.hid (trueFrom_cons hx)
      clear hx g3
      cases x
      · have HT := Lib.hid (show trueFrom 0 s = out ++ trueFrom (k + 1) (s.drop (k + 1)) by rw [HTf.out, HTc.out]; rfl)
        go_wp2
        go_roundw
        case rel => exact ⟨k + 1, out, hkn, by go_num, HT.out, by omega, HO.out, HB.out⟩
        case measure => simp [intOf]; omega
      · have HT := Lib.hid (show trueFrom 0 s = (out ++ [(k : Int)]) ++ trueFrom (k + 1) (s.drop (k + 1)) by rw [HTf.out, HTc.out]; simp)
        have hcap1 : (out.length + 1) * 8 ≤ 140737488355328 := by omega
        have hcap2 : out.length + 1 ≤ 9223372036854775807 := by omega
        have HI : Hid (I64 (k : Int)) := Lib.hid ⟨by omega, by omega⟩
        go_wp2_with (at_builtin; refine wpList_own1 _ rfl _ _ elemInt rfl rfl (HO.out.alloc _) (k : Int) [.int .i64 (k : Int)] rfl (At.new _ _ _) ⟨rfl, HI.out⟩ hcap1 hcap2 (Nat.le_trans HB.out.size ((Below.refl _ _).alloc (Nat.le_refl _) _).size) ?_; intro v' w6 hown6 hg6 hat6; have H6 := Lib.hid (And.intro hown6 hg6); clear hown6 hg6 hat6)
        go_roundw
        case rel => exact ⟨k + 1, out ++ [(k : Int)], hkn, by go_num, HT.out, by simp; omega, H6.out.1, bgrown (HB.out.alloc HB.out.size _) H6.out.2 (HO.out.alloc _) (Nat.le_refl _) (Nat.le_trans HB.out.size ((Below.refl _ _).alloc (Nat.le_refl _) _).size)⟩
        case measure => simp [intOf]; omega
    · have HTn : Hid (trueFrom 0 s = out) := Lib.hid (by rw [HTf.out, List.drop_of_length_le (by omega), trueFrom, List.append_nil])
      obtain ⟨An, cn, rfl, hcn1, hcn2, _⟩ := HO.out.form
      have HLo := Lib.hid (HLB3.out.below HB.out)
      have HBw := Lib.hid (bthen HB3.out HB.out HB3.out.size)
      have hz4 := HB.out.size
      go_wp2_with fail
      go_loopw [8, 35] (fun v i wr => RtL2 ⟨gt, (n : Int), gs, rs⟩ L s (.slice An out.length cn) out w3.heap.size wo.heap.size wo v i wr) (fun _ i _ => rs.length - (intOf i).toNat)
      case atStart => exact ⟨0, [], Nat.zero_le _, rfl, by simp, by simp, Own.nil _ _ _ _, Below.refl _ _⟩
      case round =>
        obtain ⟨wi, hwi⟩ : ∃ wi : World, wi = wr := ⟨_, rfl⟩
        subst hwi
        obtain ⟨j, out2, hj, rfl, hwf, hol2, hown, hb⟩ := hrel
        dsimp only at hj hwf
        have HO2 := Lib.hid hown
        have HBi := Lib.hid hb
        have HWf := Lib.hid hwf
        have HRi := Lib.hid (HRo.out.below HBi.out HRo.out.lt)
        clear hown hb hwf g3
        by_cases hlt : j < rs.length
        · obtain ⟨q, hq⟩ := get_some hlt
          obtain ⟨bq, oq, Aq, cq, rfl, hSb, hbs, hi, hrc, hcr, hEr, hc0, hc1⟩ := ((HA.out.belowB HBw.out HS.out).below HBi.out).rule hq
          obtain ⟨hl0, hl1, hr4, hsy⟩ := HRR.out q (List.mem_of_getElem? hq)
          have Hd := Lib.hid (drop_cons hq)
          have HQ := Lib.hid (And.intro hq (And.intro hsy (List.mem_of_getElem? hq)))
          obtain ⟨ql, qr⟩ := q
          dsimp only at hi hrc hcr hEr hc0 hc1 hl0 hl1 hr4 hsy
          have hj0 : (0 : Int) ≤ (j : Int) := by omega
          have hql9 : ql < (n : Int) := by omega
          obtain ⟨x, hx⟩ := get_some (show ql.toNat < s.length by omega)
          have rx : wi.cell? ⟨Rb, ql.toNat, none⟩ = some (.bool x) := (HRi.out.cell _).trans (bcells_get hx)
          have HX := Lib.hid (show s.getD ql.toNat false = x by rw [List.getD_eq_getElem?_getD, hx]; rfl)
          have hba2 : Below wi.heap.size wi (wi.alloc (.cells #[.int .i64 ql, .slice Aq qr.length cq] 72)) := (Below.refl _ _).alloc (Nat.le_refl _) _
          have HEr := Lib.hid (hEr.below hba2)
          have HLi := Lib.hid ((HLo.out.below HBi.out).below hba2)
          have HBn := Lib.hid (bthen HBi.out hba2 HBi.out.size)
          have HOn := Lib.hid (HO2.out.below hba2 (Nat.le_refl _))
          have zRi := HRi.out.lt
          have zRi2 : Rb < wi.heap.size + 1 := by omega
          clear hq hsy hx hba2 hEr hi
          cases x
          · have HT := Lib.hid (show whereFrom (stayB L s) 0 rs = out2 ++ whereFrom (stayB L s) (j + 1) (rs.drop (j + 1)) by
              rw [HWf.out, Hd.out, whereFrom]
              have e : stayB L s ⟨ql, qr⟩ = false := by unfold stayB; rw [HX.out]; rfl
              rw [e]; rfl)
            go_wp2
            go_roundw
            case rel => exact ⟨j + 1, out2, hlt, by go_num, HT.out, by omega, HOn.out, HBn.out⟩
            case measure => simp [intOf]; omega
          · go_wp2_with fail
            refine (rgood_any w1.heap.size Lb n cl L z ⟨ql, qr⟩ Aq cq S _ HLi.out (by omega) HQ.out.2.1 hrc hcr HEr.out).mono ?_
            rintro e w7 ⟨rfl, hb7⟩
            have HB7 := Lib.hid (bthen HBn.out hb7 HBn.out.size)
            have HO7 := Lib.hid (HOn.out.below hb7 (Nat.le_refl _))
            have hstay : stayB L s ⟨ql, qr⟩ = useB L ⟨ql, qr⟩ := by unfold stayB; rw [HX.out, Bool.true_and]
            have HSt := Lib.hid hstay
            clear hb7 hstay
            cases hu : useB L ⟨ql, qr⟩
            · have HT := Lib.hid (show whereFrom (stayB L s) 0 rs = out2 ++ whereFrom (stayB L s) (j + 1) (rs.drop (j + 1)) by
                rw [HWf.out, Hd.out, whereFrom, HSt.out, hu]; rfl)
              clear hu
              go_wp2
              go_roundw
              case rel => exact ⟨j + 1, out2, hlt, by go_num, HT.out, by omega, HO7.out, HB7.out⟩
              case measure => simp [intOf]; omega
            · have HT := Lib.hid (show whereFrom (stayB L s) 0 rs = (out2 ++ [(j : Int)]) ++ whereFrom (stayB L s) (j + 1) (rs.drop (j + 1)) by
                rw [HWf.out, Hd.out, whereFrom, HSt.out, hu]; simp)
              clear hu
              have hcap1 : (out2.length + 1) * 8 ≤ 140737488355328 := by omega
              have hcap2 : out2.length + 1 ≤ 9223372036854775807 := by omega
              have HI : Hid (I64 (j : Int)) := Lib.hid ⟨by omega, by omega⟩
              go_wp2_with (at_builtin; refine wpList_own1 _ rfl _ _ elemInt rfl rfl (HO7.out.alloc _) (j : Int) [.int .i64 (j : Int)] rfl (At.new _ _ _) ⟨rfl, HI.out⟩ hcap1 hcap2 (Nat.le_trans HB7.out.size ((Below.refl _ _).alloc (Nat.le_refl _) _).size) ?_; intro v' w6 hown6 hg6 hat6; have H6 := Lib.hid (And.intro hown6 hg6); clear hown6 hg6 hat6)
              go_roundw
              case rel => exact ⟨j + 1, out2 ++ [(j : Int)], hlt, by go_num, HT.out, by simp; omega, H6.out.1, bgrown (HB7.out.alloc HB7.out.size _) H6.out.2 (HO7.out.alloc _) (Nat.le_refl _) (Nat.le_trans HB7.out.size ((Below.refl _ _).alloc (Nat.le_refl _) _).size)⟩
              case measure => simp [intOf]; omega
        · have HWn : Hid (whereFrom (stayB L s) 0 rs = out2) := Lib.hid (by rw [HWf.out, List.drop_of_length_le (by omega), whereFrom, List.append_nil])
          have HBx := Lib.hid (bthen HBw.out HBi.out HBw.out.size)
          go_wp2
          go_ret2
          exact ⟨s, _, _, HSet.out, rfl, by rw [HTn.out]; exact (HO.out.below HBi.out (Nat.le_refl _)).base (by have := HB3.out.size; omega), by rw [HWn.out]; exact HO2.out.base (by have := HBw.out.size; omega), HBx.out⟩
end Go.Proofs.YtbboceklkjfimaaDoor
