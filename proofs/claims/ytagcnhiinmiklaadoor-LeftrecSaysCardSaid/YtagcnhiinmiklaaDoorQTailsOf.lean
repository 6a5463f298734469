/- Contract: the reference's TailsOf: the nonterminals with a rule that begins with themselves. -/
import Derived.Test.YtagcnhiinmiklaaDoorQLeftIs
import Derived.Test.YtagcnhiinmiklaaDoorQw1
import Derived.Test.YtagcnhiinmiklaaDoorQp2
import Derived.Test.YtagcnhiinmiklaaDoorQValid
import Derived.Deep.DeepCutAuto
namespace Go.Proofs.YtagcnhiinmiklaaDoor
open Go.RowKit
set_option linter.unusedVariables false

/-- The nonterminals below k with such a rule, in order. -/
def tailsT (g : Gram) : Nat → List Int
  | 0 => []
  | k + 1 => if hasRec g k then tailsT g k ++ [(k : Int)] else tailsT g k
theorem tailsT_len (g : Gram) : ∀ k, (tailsT g k).length = cntRec g k
  | 0 => rfl
  | k + 1 => by
    unfold tailsT cntRec
    split
    · rw [List.length_append, tailsT_len g k]; rfl
    · rw [tailsT_len g k]; rfl
theorem tailsT_mem {g : Gram} : ∀ {k : Nat} {z : Int}, z ∈ tailsT g k → 0 ≤ z ∧ z < (k : Int)
  | 0, z, h => by simp [tailsT] at h
  | k + 1, z, h => by
    unfold tailsT at h
    split at h
    · rcases List.mem_append.1 h with h | h
      · have := tailsT_mem h; omega
      · simp at h; omega
    · have := tailsT_mem h; omega
/-- A rule of the nonterminal k that begins with it. -/
def recK (k : Nat) (q : Rule) : Bool := decide (q.left = (k : Int)) && recB q
/-- The row while the rules of k are gone through. -/
def tailsJ (g : Gram) (k j : Nat) : List Int := if (g.rules.take j).any (recK k) then tailsT g k ++ [(k : Int)] else tailsT g k
theorem tailsJ_zero (g : Gram) (k : Nat) : tailsJ g k 0 = tailsT g k := by simp [tailsJ]
theorem tailsJ_all (g : Gram) (k : Nat) {j : Nat} (h : g.rules.length ≤ j) : tailsJ g k j = tailsT g (k + 1) := by
  unfold tailsJ
  rw [List.take_of_length_le h]
  rfl
theorem tailsJ_miss {g : Gram} {k j : Nat} {q : Rule} (hq : g.rules[j]? = some q) (h : recK k q = false) : tailsJ g k (j + 1) = tailsJ g k j := by
  unfold tailsJ
  rw [take_snoc hq, List.any_append]
  simp [h]
theorem tailsJ_there {g : Gram} {k j : Nat} {q : Rule} (hq : g.rules[j]? = some q) (h : (k : Int) ∈ tailsJ g k j) : tailsJ g k (j + 1) = tailsJ g k j := by
  have ha : (g.rules.take j).any (recK k) = true := by
    cases e : (g.rules.take j).any (recK k) with
    | true => rfl
    | false =>
      unfold tailsJ at h
      rw [e] at h
      have := tailsT_mem h
      omega
  unfold tailsJ
  rw [take_snoc hq, List.any_append, ha]
  simp
theorem tailsJ_new {g : Gram} {k j : Nat} {q : Rule} (hq : g.rules[j]? = some q) (hr : recK k q = true) (h : ¬ (k : Int) ∈ tailsJ g k j) : tailsJ g k (j + 1) = tailsJ g k j ++ [(k : Int)] := by
  have ha : (g.rules.take j).any (recK k) = false := by
    cases e : (g.rules.take j).any (recK k) with
    | false => rfl
    | true =>
      unfold tailsJ at h
      rw [e] at h
      exact absurd (by simp) h
  unfold tailsJ
  rw [take_snoc hq, List.any_append, ha]
  simp [hr]
theorem tailsJ_len (g : Gram) (k j : Nat) : (tailsJ g k j).length ≤ k + 1 := by
  have h := tailsT_len g k
  have h2 := cntRec_le g k
  unfold tailsJ
  split
  · rw [List.length_append, h]; simp; omega
  · rw [h]; omega
def TlO (g : Gram) (n : Nat) (w w1 : World) (v i : Value) (wr : World) : Prop :=
  ∃ k : Nat, k ≤ n ∧ i = .int .i64 k ∧ Own wr (fun _ => False) w1.heap.size 3 v (tailsT g k) ∧ Below w1.heap.size w1 wr
def TlI (g : Gram) (k : Nat) (w1 wo : World) (v i : Value) (wr : World) : Prop :=
  ∃ j : Nat, j ≤ g.rules.length ∧ i = .int .i64 j ∧ Own wr (fun _ => False) w1.heap.size 3 v (tailsJ g k j) ∧ Below w1.heap.size wo wr

set_option maxRecDepth 100000 in
set_option maxHeartbeats 4000000 in
theorem tailsOf_any (g : Gram) (n : Nat) (A : Option Addr) (c : Nat) (S : Nat → Prop) (w : World) (hgn : g.nons = (n : Int)) (hv : ValidG g) (hlc : g.rules.length ≤ c) (hc : c ≤ 9223372036854775807) (hA : Els w S g.rules A) (hS : ∀ b, S b → b < w.heap.size) :
    Calls Tryd.prog 19 #[.agg #[.int .i64 g.terms, .int .i64 g.nons, .int .i64 g.start, .slice A g.rules.length c]] w fun e w' => ∃ v, e = .returned v ∧ Own w' (fun _ => False) w.heap.size 3 v (tailsT g n) ∧ Below w.heap.size w w' := by
  obtain ⟨gt, gn, gs, rs⟩ := g
  dsimp only at *
  subst hgn
  have hn10 : n ≤ 10 := by have := hv.n10; dsimp only at this; omega
  have hrl : rs.length ≤ 32 := hv.len
  have HV := Lib.hid hv
  have HS := Lib.hid hS
  obtain ⟨w1, hw1⟩ : ∃ w1 : World, w1 = w.alloc (.cells #[.int .i64 gt, .int .i64 (n : Int), .int .i64 gs, .slice A rs.length c] 24) := ⟨_, rfl⟩
  have HW1 := Lib.hid hw1
  have hb1 : Below w.heap.size w w1 := by rw [hw1]; exact (Below.refl _ _).alloc (Nat.le_refl _) _
  have hG1 : Blk' w1 w.heap.size 24 #[.int .i64 gt, .int .i64 (n : Int), .int .i64 gs, .slice A rs.length c] := by rw [hw1]; exact Blk'.new w _ _
  have HB1 := Lib.hid hb1
  have HG1 := Lib.hid hG1
  have HA1 := Lib.hid (hA.below hb1)
  have a1 : w1.cell? ⟨w.heap.size, 1, none⟩ = some (.int .i64 (n : Int)) := hG1.cell 1
  have zG : w.heap.size < w1.heap.size := hG1.lt
  clear hv hS hw1 hb1 hG1 hA
  go_enter Tryd.func19, Tryd.ntmps19
  go_upto_region 1 with (fail)
  rw [← HW1.out]
  go_wp2_with fail
  clear a1 zG
  go_loopw [3, 9] (fun v i wr => TlO ⟨gt, (n : Int), gs, rs⟩ n w w1 v i wr) (fun _ i _ => n - (intOf i).toNat)
  case atStart => exact ⟨0, Nat.zero_le _, rfl, Own.nil _ _ _ _, Below.refl _ _⟩
  case round =>
    obtain ⟨wo, hwo⟩ : ∃ wo : World, wo = wr := ⟨_, rfl⟩
    subst hwo
    obtain ⟨k, hk, rfl, hown, hbo⟩ := hrel
    have HO := Lib.hid hown
    have HBo := Lib.hid hbo
    have HGo := Lib.hid (HG1.out.below hbo HG1.out.lt)
    clear hown hbo
    by_cases hkn : k < n
    · have d0 : (k : Int) < (n : Int) := by omega
      have a3 : wo.cell? ⟨w.heap.size, 3, none⟩ = some (.slice A rs.length c) := HGo.out.cell 3
      have zG : w.heap.size < wo.heap.size := HGo.out.lt
      go_wp2_with fail
      clear a3 zG
      go_loopw [3, 15] (fun v i wr => TlI ⟨gt, (n : Int), gs, rs⟩ k w1 wo v i wr) (fun _ i _ => rs.length - (intOf i).toNat)
      case atStart => exact ⟨0, Nat.zero_le _, rfl, by rw [tailsJ_zero]; exact HO.out, Below.refl _ _⟩
      case round =>
        obtain ⟨wq, hwq⟩ : ∃ wq : World, wq = wr := ⟨_, rfl⟩
        subst hwq
        obtain ⟨j, hj, rfl, hown, hbq⟩ := hrel
        have HOq := Lib.hid hown
        have HBq := Lib.hid hbq
        have HB1q := Lib.hid (HBo.out.trans hbq)
        clear hown hbq
        by_cases hjn : j < rs.length
        · obtain ⟨q, hq⟩ := get_some hjn
          obtain ⟨bq, oq, Aq, cq, eA, hSb, hbs, hqi, hrc, hcr, hEr, hc0, hc1⟩ := (HA1.out.below HB1q.out).rule hq
          subst eA
          obtain ⟨ql, qr⟩ := q
          dsimp only at hqi hrc hcr hEr hc0 hc1
          have HQ := Lib.hid hq
          have hj0 : (0 : Int) ≤ (j : Int) := by omega
          have hj1 : (j : Int) < (rs.length : Int) := by omega
          obtain ⟨w3, hw3⟩ : ∃ w3 : World, w3 = wq.alloc (.cells #[.int .i64 ql, .slice Aq qr.length cq] 49) := ⟨_, rfl⟩
          have HW3 := Lib.hid hw3
          have hb3 : Below wq.heap.size wq w3 := by rw [hw3]; exact (Below.refl _ _).alloc (Nat.le_refl _) _
          have hX3 : Blk' w3 wq.heap.size 49 #[.int .i64 ql, .slice Aq qr.length cq] := by rw [hw3]; exact Blk'.new wq _ _
          have HO3 := Lib.hid (HOq.out.below hb3 (Nat.le_refl _))
          have HB3 := Lib.hid (HBq.out.trans (hb3.mono HB1q.out.size))
          have HE3 := Lib.hid (hEr.below hb3)
          have hs3 : w1.heap.size ≤ w3.heap.size := Nat.le_trans HB1q.out.size hb3.size
          have x0 : w3.cell? ⟨wq.heap.size, 0, none⟩ = some (.int .i64 ql) := hX3.cell 0
          have x1 : w3.cell? ⟨wq.heap.size, 1, none⟩ = some (.slice Aq qr.length cq) := hX3.cell 1
          have zX : wq.heap.size < w3.heap.size := hX3.lt
          have HLen := Lib.hid (tailsJ_len ⟨gt, (n : Int), gs, rs⟩ k j)
          obtain ⟨A3, c3, rfl, h31, h32, _⟩ := HO3.out.form
          obtain ⟨L, hL⟩ : ∃ L, L = tailsJ ⟨gt, (n : Int), gs, rs⟩ k j := ⟨_, rfl⟩
          rw [← hL] at HOq HO3 HLen h31
          have hL99 : L.length ≤ 11 := by have := HLen.out; omega
          have HLL := Lib.hid hL
          have HMiss : Hid (recK k ⟨ql, qr⟩ = false → TlI ⟨gt, (n : Int), gs, rs⟩ k w1 wo (.slice A3 L.length c3) (.int .i64 ((j : Int) + 1)) w3) := Lib.hid (fun h => ⟨j + 1, hjn, by go_num, by rw [tailsJ_miss (g := ⟨gt, (n : Int), gs, rs⟩) HQ.out h, ← HLL.out]; exact HO3.out, HB3.out⟩)
          rw [← hL]
          clear hw3 hb3 hX3 hq hEr hL
          go_upto_region 8 with (fail)
          rw [← HW3.out]
          clear hc0 hc1
          by_cases h1 : ql = (k : Int)
          · have e1 : (ql == (k : Int)) = true := by simp [h1]
            have HK := Lib.hid h1
            clear h1
            cases hqr : qr with
            | nil =>
              subst hqr
              have HM := Lib.hid (HMiss.out (by simp [recK, recB]))
              replace x1 : w3.cell? ⟨wq.heap.size, 1, none⟩ = some (.slice Aq 0 cq) := x1
              go_wp2_with fail
              go_roundw
              case rel => exact HM.out
              case measure => simp [intOf]; omega
            | cons s0 r0 =>
              have hne : 0 < qr.length := by rw [hqr]; simp
              have hs0 : qr[0]? = some s0 := by rw [hqr]; rfl
              have HS0 := Lib.hid hs0
              obtain ⟨bs, os, rfl, _, zs, _, y0, y1⟩ := HE3.out.sym hs0
              simp only [Nat.zero_mul, Nat.mul_zero, Nat.add_zero] at y0 y1
              obtain ⟨st, sn⟩ := s0
              dsimp only at y0 y1
              have l0 : (0 : Int) < (qr.length : Int) := by omega
              have d1 : decide (0 < qr.length) = true := decide_eq_true hne
              have nqr : ¬ qr = [] := by rw [hqr]; simp
              clear hqr hs0
              by_cases hh : st = false ∧ sn = (k : Int)
              · obtain ⟨rfl, hsn⟩ := hh
                have e2 : (sn == (k : Int)) = true := by simp [hsn]
                have HR : Hid (recK k ⟨ql, qr⟩ = true) := Lib.hid (by
                  unfold recK recB
                  rw [HS0.out, HK.out, hsn]
                  simp)
                clear hsn
                go_wp2_with fail
                refine (containsInt_any A3 L.length c3 L (k : Int) _ w3 rfl (by omega) HO3.out.vl.els.2.2.2).mono ?_
                rintro e w4 ⟨rfl, rfl⟩
                by_cases hin : (k : Int) ∈ L
                · rw [decide_eq_true hin]
                  have HM : Hid (TlI ⟨gt, (n : Int), gs, rs⟩ k w1 wo (.slice A3 L.length c3) (.int .i64 ((j : Int) + 1)) w3) := Lib.hid ⟨j + 1, hjn, by go_num, by rw [tailsJ_there (g := ⟨gt, (n : Int), gs, rs⟩) HQ.out (by rw [← HLL.out]; exact hin), ← HLL.out]; exact HO3.out, HB3.out⟩
                  clear hin
                  go_wp2_with fail
                  go_roundw
                  case rel => exact HM.out
                  case measure => simp [intOf]; omega
                · rw [decide_eq_false hin]
                  have HT := Lib.hid (tailsJ_new (g := ⟨gt, (n : Int), gs, rs⟩) HQ.out HR.out (by rw [← HLL.out]; exact hin))
                  have hk64 : I64 (k : Int) := by unfold I64; omega
                  have HK64 := Lib.hid hk64
                  have hcap1 : (L.length + 1) * 8 ≤ 140737488355328 := by omega
                  have hcap2 : L.length + 1 ≤ 9223372036854775807 := by omega
                  clear hin hk64
                  go_wp2_with (at_builtin; refine wpList_own1 _ rfl _ _ elemInt rfl rfl (HO3.out.alloc _) (k : Int) [.int .i64 (k : Int)] rfl (At.new _ _ _) ⟨rfl, HK64.out⟩ hcap1 hcap2 (Nat.le_trans hs3 ((Below.refl _ _).alloc (Nat.le_refl _) _).size) ?_; intro v' w4 hown4 hg4 hat4; have H4 := Lib.hid (And.intro hown4 hg4); clear hown4 hg4 hat4)
                  go_wp2_with fail
                  go_roundw
                  case rel =>
                    refine ⟨j + 1, hjn, by go_num, ?_, ?_⟩
                    · rw [HT.out, ← HLL.out]; exact H4.out.1
                    · exact (HB3.out.alloc hs3 _).grown H4.out.2 (by have := hs3; simp; omega) (fun b hb => (HO3.out.block b hb).1)
                  case measure => simp [intOf]; omega
              · have HM := Lib.hid (HMiss.out (by
                  unfold recK recB
                  rw [HS0.out, HK.out]
                  have : ¬ ((⟨st, sn⟩ : Sym) = ⟨false, (k : Int)⟩) := fun h => by injection h with h1 h2; exact hh ⟨h1, h2⟩
                  simp [this]))
                cases st with
                | true =>
                  go_wp2_with fail
                  go_roundw
                  case rel => exact HM.out
                  case measure => simp [intOf]; omega
                | false =>
                  have e2 : (sn == (k : Int)) = false := by simp; exact fun h => hh ⟨rfl, h⟩
                  clear hh
                  go_wp2_with fail
                  go_roundw
                  case rel => exact HM.out
                  case measure => simp [intOf]; omega
          · have e1 : (ql == (k : Int)) = false := by simp [h1]
            have HM := Lib.hid (HMiss.out (by simp [recK, h1]))
            clear h1
            go_wp2_with fail
            go_roundw
            case rel => exact HM.out
            case measure => simp [intOf]; omega
        · have HF : Hid (Own wq (fun _ => False) w1.heap.size 3 _ (tailsT ⟨gt, (n : Int), gs, rs⟩ (k + 1))) := Lib.hid (by
            have h := HOq.out
            rw [tailsJ_all ⟨gt, (n : Int), gs, rs⟩ k (show rs.length ≤ j by omega)] at h
            exact h)
          have d1 : ¬ (j : Int) < (rs.length : Int) := by omega
          go_wp2_with fail
          go_roundw
          case rel => exact ⟨k + 1, hkn, by go_num, HF.out, HB1q.out⟩
          case measure => simp [intOf]; omega
    · have hkk : k = n := by omega
      subst hkk
      have d0 : ¬ (k : Int) < (k : Int) := by omega
      go_wp2
      go_ret
      exact ⟨_, rfl, HO.out.base HB1.out.size, HB1.out.trans (HBo.out.mono HB1.out.size)⟩
end Go.Proofs.YtagcnhiinmiklaaDoor
