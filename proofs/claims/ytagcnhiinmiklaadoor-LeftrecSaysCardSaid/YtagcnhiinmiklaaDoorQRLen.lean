/- Contract: parlref2.LengthsOf makes the program's table of lengths. -/
import Derived.Test.YtagcnhiinmiklaaDoorQCloneInt
import Derived.Test.YtagcnhiinmiklaaDoorQp1
import Derived.Test.YtagcnhiinmiklaaDoorQp2
import Derived.Test.YtagcnhiinmiklaaDoorQIslack
import Derived.Test.YtagcnhiinmiklaaDoorQUnionS
namespace Go.Proofs.YtagcnhiinmiklaaDoor
open Go.RowKit
set_option linter.unusedVariables false

theorem jac_take {rs : List Rule} {j : Nat} {q : Rule} (out : List Int) (h : rs[j]? = some q) : (rs.take (j + 1)).foldl (jacStep out) out = jacStep out ((rs.take j).foldl (jacStep out) out) q := by
  rw [take_snoc h, List.foldl_append]; rfl
/-- A table on the way: not too long, nothing too great. -/
structure JB (n k : Nat) (l : List Int) : Prop where
  len : l.length = n
  low : ∀ x, -1 ≤ l.getD x 0
  high : ∀ x, l.getD x 0 ≤ (pw k : Int)
theorem JB.init (n : Nat) : JB n 0 (lenInit n) :=
  ⟨by simp [lenInit], fun x => by rw [List.getD_eq_getElem?_getD, lenInit, List.getElem?_replicate]; split <;> simp, fun x => by rw [List.getD_eq_getElem?_getD, lenInit, List.getElem?_replicate]; have := pw_pos 0; split <;> simp <;> omega⟩
theorem JB.up {n k : Nat} {l : List Int} (h : JB n k l) : JB n (k + 1) l :=
  ⟨h.len, h.low, fun x => by have := h.high x; have := pw_mono (show k ≤ k + 1 by omega); omega⟩
theorem JB.step {n k : Nat} {out next : List Int} (h : JB n k out) (hn : JB n (k + 1) next) (q : Rule) (hq : q.left.toNat < n) (hr : q.right.length ≤ 4) : JB n (k + 1) (jacStep out next q) := by
  unfold jacStep
  split
  · rename_i hc
    have hp := pw_pos k
    have h1 := sumR_up out (pw k : Int) (by omega) h.high q.right 0
    rw [if_neg (by omega)] at h1
    have h2 : (pw k : Int) * (q.right.length : Int) ≤ (pw k : Int) * 4 := Int.mul_le_mul_of_nonneg_left (by omega) (by omega)
    have h3 := pw_succ k
    have hl : q.left.toNat < next.length := by rw [hn.len]; exact hq
    refine ⟨by rw [List.length_set, hn.len], fun x => ?_, fun x => ?_⟩
    · rw [getD_set hl]; split
      · omega
      · exact hn.low x
    · rw [getD_set hl]; split
      · omega
      · exact hn.high x
  · exact hn
theorem JB.fold {n k : Nat} {out : List Int} (h : JB n k out) : ∀ (rs : List Rule) (next : List Int), JB n (k + 1) next → (∀ q ∈ rs, q.left.toNat < n ∧ q.right.length ≤ 4) → JB n (k + 1) (rs.foldl (jacStep out) next)
  | [], next, hn, _ => hn
  | q :: rs, next, hn, hr => JB.fold h rs _ (h.step hn q (hr q (by simp)).1 (hr q (by simp)).2) (fun x hx => hr x (by simp [hx]))
theorem JB.iter {rs : List Rule} {n : Nat} (hr : ∀ q ∈ rs, q.left.toNat < n ∧ q.right.length ≤ 4) : ∀ k, JB n k (jacIter rs k (lenInit n))
  | 0 => JB.init n
  | k + 1 => JB.fold (JB.iter hr k) rs _ (JB.iter hr k).up hr
theorem JB.bound {n k : Nat} {l : List Int} (h : JB n k l) (hk : k ≤ 10) : ∀ v ∈ l, -1 ≤ v ∧ v ≤ 1048576 := fun v hv => by
  obtain ⟨i, hi, rfl⟩ := List.getElem_of_mem hv
  have h1 := h.low i
  have h2 := h.high i
  rw [List.getD_eq_getElem?_getD, List.getElem?_eq_getElem hi] at h1 h2
  simp at h1 h2
  have h3 := pw_mono hk
  have h4 := pw_ten
  omega
theorem islack_set {l : List Int} {z : Array Value} {k : Nat} {v : Int} (h : k < l.length) : (icells l ++ z).setIfInBounds k (.int .i64 v) = icells (l.set k v) ++ z := by
  rw [slack_set (by rw [icells_size]; exact h), icells_set]

def RetRLen (L : List Int) (n : Nat) (w : World) (e : Ending) (w' : World) : Prop :=
  ∃ b c z, e = .returned (.slice (some ⟨b, 0, none⟩) n c) ∧ Blk' w' b 3 (icells L ++ z) ∧ n ≤ c ∧ c ≤ 9223372036854775807 ∧ w.heap.size ≤ b ∧ Below w.heap.size w w'
def RlO (w : World) (rs : List Rule) (n : Nat) (gc : Array Value) (o i : Value) (wr : World) : Prop :=
  ∃ (k b c : Nat) (z : Array Value), k ≤ n ∧ i = .int .i64 k ∧ o = .slice (some ⟨b, 0, none⟩) n c ∧ n ≤ c ∧ c ≤ 9223372036854775807 ∧ Blk' wr b 3 (icells (jacIter rs k (lenInit n)) ++ z) ∧ w.heap.size < b ∧ Below w.heap.size w wr ∧ Blk' wr w.heap.size 24 gc
def RlI (rs : List Rule) (l : List Int) (b2 : Nat) (z2 : Array Value) (w2 : World) (i : Value) (wr : World) : Prop :=
  ∃ (j : Nat) (next : List Int), j ≤ rs.length ∧ i = .int .i64 j ∧ Blk' wr b2 3 (icells next ++ z2) ∧ next = (rs.take j).foldl (jacStep l) l ∧ Kept (fun x => x = b2) w2 wr
def RlS (wq : World) (l : List Int) (right : List Sym) (s i : Value) (wr : World) : Prop :=
  ∃ (m : Nat) (a : Int), m ≤ right.length ∧ i = .int .i64 m ∧ s = .int .i64 a ∧ sumR l 0 right = sumR l a (right.drop m) ∧ -1 ≤ a ∧ a ≤ (m : Int) * 1048576 ∧ Below wq.heap.size wq wr

theorem jacStep_set {l next : List Int} {q : Rule} {x : Int} (hx : next[q.left.toNat]? = some x) (h : 0 ≤ sumR l 0 q.right ∧ (x < 0 ∨ sumR l 0 q.right < x)) : jacStep l next q = next.set q.left.toNat (sumR l 0 q.right) := by
  have hd : next.getD q.left.toNat 0 = x := by rw [List.getD_eq_getElem?_getD, hx]; rfl
  unfold jacStep; rw [hd, if_pos h]
theorem jacStep_no {l next : List Int} {q : Rule} {x : Int} (hx : next[q.left.toNat]? = some x) (h : ¬ (0 ≤ sumR l 0 q.right ∧ (x < 0 ∨ sumR l 0 q.right < x))) : jacStep l next q = next := by
  have hd : next.getD q.left.toNat 0 = x := by rw [List.getD_eq_getElem?_getD, hx]; rfl
  unfold jacStep; rw [hd, if_neg h]

set_option maxRecDepth 100000 in
set_option maxHeartbeats 4000000 in
theorem rlengths_any (g : Gram) (n : Nat) (A : Option Addr) (c : Nat) (S : Nat → Prop) (w : World) (L : List Int) (hgn : g.nons = (n : Int)) (hn : 1 ≤ n ∧ n ≤ 10) (hlc : g.rules.length ≤ c) (hc : c ≤ 9223372036854775807) (hA : Els w S g.rules A) (hS : ∀ b, S b → b < w.heap.size)
    (hrl : g.rules.length ≤ 1000) (hrr : RulesIn g n) (hL : LFix g n L) :
    Calls Tryd.prog 53 #[.agg #[.int .i64 g.terms, .int .i64 g.nons, .int .i64 g.start, .slice A g.rules.length c]] w (RetRLen L n w) := by
  obtain ⟨gt, gn, gs, rs⟩ := g
  dsimp only at *
  subst hgn
  have HA := Lib.hid hA
  have HS := Lib.hid hS
  have HRR := Lib.hid hrr
  have HR4 : Hid (∀ q ∈ rs, q.left.toNat < n ∧ q.right.length ≤ 4) := Lib.hid (fun q hq => ⟨(hrr q hq).2.1, (hrr q hq).2.2.1⟩)
  have HE : Hid (jacIter rs n (lenInit n) = L) := Lib.hid (jac_end hL (fun q hq => ⟨(hrr q hq).2.1, fun s hs ht => ((hrr q hq).2.2.2 s hs).2 ht⟩))
  have HJ : Hid (∀ k, k ≤ n → ∀ v ∈ jacIter rs k (lenInit n), -1 ≤ v ∧ v ≤ 1048576) := Lib.hid (fun k hk => (JB.iter HR4.out k).bound (by omega))
  have HJl : Hid (∀ k, (jacIter rs k (lenInit n)).length = n) := Lib.hid (fun k => (JB.iter HR4.out k).len)
  have HFx := Lib.hid hL
  obtain ⟨hn1, hn10⟩ := hn
  have hn9 : (n : Int) ≤ 10 := by omega
  have hrl9 : rs.length ≤ 9223372036854775807 := by omega
  have hba : Below w.heap.size w ((w.alloc (.cells #[.int .i64 gt, .int .i64 (n : Int), .int .i64 gs, .slice A rs.length c] 24)).alloc (.cells #[.int .i64 (-1)] 3)) := ((Below.refl _ _).alloc (Nat.le_refl _) _).alloc (by simp) _
  have HBa := Lib.hid hba
  have HG0 := Lib.hid ((Blk'.new w 24 #[.int .i64 gt, .int .i64 (n : Int), .int .i64 gs, .slice A rs.length c]).alloc (.cells #[.int .i64 (-1)] 3))
  have HC0 : Hid (((w.alloc (.cells #[.int .i64 gt, .int .i64 (n : Int), .int .i64 gs, .slice A rs.length c] 24)).alloc (.cells #[.int .i64 (-1)] 3)).cell? ⟨w.heap.size + 1, 0, none⟩ = some (.int .i64 (-1))) := Lib.hid ((Blk'.new' (w.alloc (.cells #[.int .i64 gt, .int .i64 (n : Int), .int .i64 gs, .slice A rs.length c] 24)) 3 #[.int .i64 (-1)] (g := w.heap.size + 1) (by simp)).cell 0)
  clear hA hS hrr hba hL
  go_enter Tryd.func53, Tryd.ntmps53
  go_wp2_with fail
  refine (repeat_any (w.heap.size + 1) 0 n _ hn1 hn10 HC0.out).mono ?_
  rintro e w1 ⟨O, rfl, hO, hOge, hb1⟩
  have hOw : w.heap.size < O := by simp at hOge; omega
  have hG1 := HG0.out.below hb1 (by simp; omega)
  have HG1 := Lib.hid hG1
  have HB1 := Lib.hid (bthen HBa.out hb1 (by simp; omega))
  have HO1 := Lib.hid hO
  have g1 : w1.cell? ⟨w.heap.size, 1, none⟩ = some (.int .i64 (n : Int)) := hG1.cell 1
  clear hO hb1 hG1 HG0 HBa HC0 hOge
  go_wp2_with fail
  go_loopw [3, 16] (fun o i wr => RlO w rs n #[.int .i64 gt, .int .i64 (n : Int), .int .i64 gs, .slice A rs.length c] o i wr) (fun _ i _ => n - (intOf i).toNat)
  case atStart => exact ⟨0, O, n, #[], Nat.zero_le _, rfl, rfl, Nat.le_refl _, by omega, by rw [Array.append_empty]; exact HO1.out, hOw, HB1.out, HG1.out⟩
  case round =>
    obtain ⟨wa, hwa⟩ : ∃ wa : World, wa = wr := ⟨_, rfl⟩
    subst hwa
    obtain ⟨k, b, cb, z, hk, rfl, rfl, hcb1, hcb2, hB, hbw, hb, hG⟩ := hrel
    have HJk := Lib.hid (HJ.out k hk)
    have HLk := Lib.hid (HJl.out k)
    have HBa := Lib.hid hB
    have HBl := Lib.hid hb
    have HGa := Lib.hid hG
    have g3 : wa.cell? ⟨w.heap.size, 3, none⟩ = some (.slice A rs.length c) := hG.cell 3
    have zba : b < wa.heap.size := hB.lt
    have zga : w.heap.size < wa.heap.size := hG.lt
    clear hB hb hG HG1 HB1 HO1 g1
    by_cases hkn : k < n
    · have hk9 : (k : Int) < (n : Int) := by omega
      obtain ⟨l, hl⟩ : ∃ l, l = jacIter rs k (lenInit n) := ⟨_, rfl⟩
      have HLl : Hid (jacIter rs (k + 1) (lenInit n) = rs.foldl (jacStep l) l) := Lib.hid (by rw [hl]; rfl)
      have HLd := Lib.hid hl
      rw [← hl] at HBa HJk HLk
      clear hl
      go_wp2_with fail
      refine (cloneInt_any l (some ⟨b, 0, none⟩) cb n (fun _ => True) wa HLk.out.symm (by intro e; have := HLk.out; rw [e] at this; simp at this; omega) (by have := HLk.out; omega) (els_islack HBa.out (fun v hv => by have := HJk.out v hv; unfold I64; omega) trivial)).mono ?_
      rintro e w2 ⟨b2, c2, z2, rfl, hB2, hc21, hc22, hb2ge, hb2⟩
      have HB2 := Lib.hid hB2
      have HBo := Lib.hid (HBa.out.below hb2 zba)
      have HBe := Lib.hid (bthen HBl.out hb2 HBl.out.size)
      have hG2 := HGa.out.below hb2 zga
      have HG2 := Lib.hid hG2
      have g32 : w2.cell? ⟨w.heap.size, 3, none⟩ = some (.slice A rs.length c) := hG2.cell 3
      have z2a : wa.heap.size ≤ w2.heap.size := hb2.size
      have zb2 : b2 < w2.heap.size := hB2.lt
      clear hB2 hb2 hG2 HBa HBl HGa g3
      go_wp2_with fail
      go_loopw [23] (fun i wr => RlI rs l b2 z2 w2 i wr) (fun i _ => rs.length - (intOf i).toNat)
      case atStart => exact ⟨0, l, Nat.zero_le _, rfl, HB2.out, rfl, Kept.refl _ _⟩
      case round =>
        obtain ⟨wi, hwi⟩ : ∃ wi : World, wi = wr := ⟨_, rfl⟩
        subst hwi
        obtain ⟨j, next, hj, rfl, hB, hnx, hkp⟩ := hrel
        have HB := Lib.hid hB
        have HNx := Lib.hid hnx
        have HK := Lib.hid hkp
        have hJn : JB n (k + 1) next := by
          rw [hnx]
          have h1 := JB.iter HR4.out k
          rw [← HLd.out] at h1
          exact JB.fold h1 _ _ h1.up (fun q hq => HR4.out q (List.mem_of_mem_take hq))
        have HJn := Lib.hid hJn
        have zi : w2.heap.size ≤ wi.heap.size := hkp.size
        have hBoi := HBo.out.kept hkp (by omega)
        have HBoi := Lib.hid hBoi
        have HGi := Lib.hid (HG2.out.kept hkp (by omega))
        clear hB hnx hkp hJn hBoi g32
        by_cases hlt : j < rs.length
        · obtain ⟨q, hq⟩ := get_some hlt
          obtain ⟨bq, oq, Aq, cq, rfl, hSb, hbs, hi, hrc, hcr, hEr, hc0, hc1⟩ := ((HA.out.belowB HBe.out HS.out).kept HK.out (fun b hb => by have := HS.out b hb; have := HBe.out.size; omega)).rule hq
          obtain ⟨hl0, hl1, hr4, hsy⟩ := HRR.out q (List.mem_of_getElem? hq)
          have HQ := Lib.hid (And.intro hq hsy)
          obtain ⟨ql, qr⟩ := q
          dsimp only at hi hrc hcr hEr hc0 hc1 hl0 hl1 hr4 hsy
          have hj0 : (0 : Int) ≤ (j : Int) := by omega
          obtain ⟨x, hx⟩ := get_some (show ql.toNat < next.length by have := HJn.out.len; omega)
          have hxb := HJn.out.bound (by omega) x (List.mem_of_getElem? hx)
          have HX := Lib.hid hx
          have hxl := hxb.1
          have hxh := hxb.2
          have hba2 : Below wi.heap.size wi (wi.alloc (.cells #[.int .i64 ql, .slice Aq qr.length cq] 49)) := (Below.refl _ _).alloc (Nat.le_refl _) _
          have HQB := Lib.hid (Blk'.new wi 49 #[.int .i64 ql, .slice Aq qr.length cq])
          have HEr := Lib.hid (hEr.below hba2)
          have HBa2 := Lib.hid hba2
          have HO2 := Lib.hid (HBoi.out.below hba2 HBoi.out.lt)
          have HN2 := Lib.hid (HB.out.below hba2 HB.out.lt)
          have hlz : b < wi.heap.size := by omega
          have hlz2 : b2 < wi.heap.size := by omega
          have hqlen : qr.length ≤ 9223372036854775807 := by omega
          clear hq hsy hx hxb hba2 hEr hi
          go_wp2_with fail
          go_loopw [7, 30] (fun s i wr => RlS (wi.alloc (.cells #[.int .i64 ql, .slice Aq qr.length cq] 49)) l qr s i wr) (fun _ i _ => qr.length - (intOf i).toNat)
          case atStart => exact ⟨0, 0, Nat.zero_le _, rfl, rfl, by simp, by omega, by omega, Below.refl _ _⟩
          case round =>
            obtain ⟨wz, hwz⟩ : ∃ wz : World, wz = wr := ⟨_, rfl⟩
            subst hwz
            obtain ⟨m, a, hm, rfl, rfl, hsum, ha1, ha2, hbz⟩ := hrel
            have HSum := Lib.hid hsum
            have HBz := Lib.hid hbz
            have hOz := HO2.out.below hbz HO2.out.lt
            have HNz := Lib.hid (HN2.out.below hbz HN2.out.lt)
            have HQz := Lib.hid (HQB.out.below hbz HQB.out.lt)
            have hsz : wi.heap.size < wz.heap.size := by have := hbz.size; simp at this; omega
            have hOlz : b < wz.heap.size := by omega
            have q0 : wz.cell? ⟨wi.heap.size, 0, none⟩ = some (.int .i64 ql) := HQz.out.cell 0
            clear hsum hbz
            by_cases hml : m < qr.length
            · obtain ⟨s, hs⟩ := get_some hml
              have HBn : Hid (∀ o : Obj, Below (wi.alloc (.cells #[.int .i64 ql, .slice Aq qr.length cq] 49)).heap.size (wi.alloc (.cells #[.int .i64 ql, .slice Aq qr.length cq] 49)) (wz.alloc o)) := Lib.hid (fun o => HBz.out.alloc (by simp; omega) o)
              obtain ⟨bs, os, rfl, hSs, hbss, hsi, hsc0, hsc1⟩ := (HEr.out.below HBz.out).sym hs
              have Hd := Lib.hid (drop_cons hs)
              have hsr := HQ.out.2 s (List.mem_of_getElem? hs)
              obtain ⟨st, sn⟩ := s
              dsimp only at *
              have hm0 : (0 : Int) ≤ (m : Int) := by omega
              have hm4 : (m : Int) ≤ 4 := by omega
              have ha3 : a ≤ 5000000 := by omega
              have hs0 : 0 ≤ sn := hsr.1
              clear hs
              by_cases ha0 : 0 ≤ a
              · cases st
                · have hs1 : sn.toNat < n := hsr.2 rfl
                  have hs2 : sn < (n : Int) := by omega
                  obtain ⟨v, hv⟩ := get_some (show sn.toNat < l.length by have := HLk.out; omega)
                  have hvb := HJk.out v (List.mem_of_getElem? hv)
                  have hvl := hvb.1
                  have hvh := hvb.2
                  have cv : wz.cell? ⟨b, sn.toNat, none⟩ = some (.int .i64 v) := (hOz.cell _).trans ((slack_get (by rw [icells_size, HLk.out]; exact hs1)).trans (icells_get hv))
                  have hgd : l.getD sn.toNat 0 = v := by rw [List.getD_eq_getElem?_getD, hv]; rfl
                  have HE' := Lib.hid (show sumR l 0 qr = sumR l (if 0 ≤ a ∧ 0 ≤ v then a + v else -1) (qr.drop (m + 1)) by
                    rw [HSum.out, Hd.out, sumR]; simp only [hgd, Bool.false_eq_true, false_and, if_false, and_true])
                  clear hv hvb hsr HSum hOz hgd
                  by_cases hv0 : 0 ≤ v
                  · have E := Lib.hid (show sumR l 0 qr = sumR l (a + v) (qr.drop (m + 1)) by rw [HE'.out, if_pos ⟨ha0, hv0⟩])
                    clear HE'
                    go_wp2
                    go_roundw
                    case rel => exact ⟨m + 1, a + v, by omega, by go_num, rfl, E.out, by omega, by push_cast; omega, HBn.out _⟩
                    case measure => simp [intOf]; omega
                  · have E := Lib.hid (show sumR l 0 qr = sumR l (-1) (qr.drop (m + 1)) by rw [HE'.out, if_neg (by omega)])
                    clear HE'
                    go_wp2
                    go_roundw
                    case rel => exact ⟨m + 1, -1, by omega, by go_num, rfl, E.out, by omega, by push_cast; omega, HBn.out _⟩
                    case measure => simp [intOf]; omega
                · have E := Lib.hid (show sumR l 0 qr = sumR l (a + 1) (qr.drop (m + 1)) by rw [HSum.out, Hd.out, sumR]; simp [ha0])
                  clear hOz hsr
                  go_wp2
                  go_roundw
                  case rel => exact ⟨m + 1, a + 1, by omega, by go_num, rfl, E.out, by omega, by push_cast; omega, HBn.out _⟩
                  case measure => simp [intOf]; omega
              · have ham : a = -1 := by omega
                have E := Lib.hid (show sumR l 0 qr = sumR l a (qr.drop (m + 1)) by rw [HSum.out, Hd.out, sumR, if_neg (by omega), if_neg (by omega), ham])
                clear hOz hsr
                go_wp2
                go_roundw
                case rel => exact ⟨m + 1, a, by omega, by go_num, rfl, E.out, by omega, by push_cast; omega, HBn.out _⟩
                case measure => simp [intOf]; omega
            · have HE' := Lib.hid (show sumR l 0 qr = a by rw [HSum.out, List.drop_of_length_le (by omega), sumR])
              have cx : wz.cell? ⟨b2, ql.toNat, none⟩ = some (.int .i64 x) := (HNz.out.cell _).trans ((slack_get (by rw [icells_size, HJn.out.len]; exact hl1)).trans (icells_get HX.out))
              have fx := HNz.out.frozen ql.toNat
              have hl2 : ql < (n : Int) := by omega
              have HK3 : Hid (Kept (fun x => x = b2) w2 wz) := Lib.hid ((HK.out.below HBa2.out).below HBz.out)
              have HTk := Lib.hid (jac_take l HQ.out.1)
              clear hOz
              by_cases hac : 0 ≤ a
              · have d0 : decide (0 ≤ a) = true := decide_eq_true hac
                by_cases hx0 : x < 0
                · have hst := Lib.hid (jacStep_set (l := l) (q := ⟨ql, qr⟩) HX.out (by rw [HE'.out]; exact ⟨hac, .inl hx0⟩))
                  have d1 : decide (x < 0) = true := decide_eq_true hx0
                  go_wp2
                  go_roundw
                  case rel => exact ⟨j + 1, _, hlt, by go_num, by have h := HNz.out.set_ ql.toNat (.int .i64 a); rw [islack_set (by rw [HJn.out.len]; exact hl1)] at h; exact h, by rw [HTk.out, ← HNx.out, hst.out, HE'.out], HK3.out.setCell (p := ⟨b2, ql.toNat, none⟩) (.inl rfl) _⟩
                  case measure => simp [intOf]; omega
                · have d1 : decide (x < 0) = false := decide_eq_false hx0
                  by_cases hax : a < x
                  · have hst := Lib.hid (jacStep_set (l := l) (q := ⟨ql, qr⟩) HX.out (by rw [HE'.out]; exact ⟨hac, .inr hax⟩))
                    have d2 : decide (a < x) = true := decide_eq_true hax
                    go_wp2
                    go_roundw
                    case rel => exact ⟨j + 1, _, hlt, by go_num, by have h := HNz.out.set_ ql.toNat (.int .i64 a); rw [islack_set (by rw [HJn.out.len]; exact hl1)] at h; exact h, by rw [HTk.out, ← HNx.out, hst.out, HE'.out], HK3.out.setCell (p := ⟨b2, ql.toNat, none⟩) (.inl rfl) _⟩
                    case measure => simp [intOf]; omega
                  · have hst := Lib.hid (jacStep_no (l := l) (q := ⟨ql, qr⟩) HX.out (by rw [HE'.out]; omega))
                    have d2 : decide (a < x) = false := decide_eq_false hax
                    go_wp2
                    go_roundw
                    case rel => exact ⟨j + 1, _, hlt, by go_num, HNz.out, by rw [HTk.out, ← HNx.out, hst.out], HK3.out⟩
                    case measure => simp [intOf]; omega
              · have hst := Lib.hid (jacStep_no (l := l) (q := ⟨ql, qr⟩) HX.out (by rw [HE'.out]; omega))
                have d0 : decide (0 ≤ a) = false := decide_eq_false hac
                go_wp2
                go_roundw
                case rel => exact ⟨j + 1, _, hlt, by go_num, HNz.out, by rw [HTk.out, ← HNx.out, hst.out], HK3.out⟩
                case measure => simp [intOf]; omega
        · have E := Lib.hid (show rs.take j = rs from List.take_of_length_le (by omega))
          have HBw := Lib.hid (bthen HBe.out (HK.out.to_below (B := w.heap.size) (fun b hb => by omega) (by omega)) (Nat.le_refl _))
          go_wp2
          go_roundw
          case rel => exact ⟨k + 1, b2, c2, z2, by omega, by go_num, rfl, hc21, hc22, by rw [HLl.out]; have h := HB.out; rw [HNx.out, E.out] at h; exact h, by omega, HBw.out, HGi.out⟩
          case measure => simp [intOf]; omega
    · have hkk : k = n := by omega
      go_wp2
      go_ret
      exact ⟨b, cb, z, rfl, by have h := HBa.out; rw [hkk, HE.out] at h; exact h, hcb1, hcb2, by omega, HBl.out⟩
end Go.Proofs.YtagcnhiinmiklaaDoor
