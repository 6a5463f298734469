/- The walk of the law CycleIsOne: Cyclic returns a cycle exactly if a nonterminal is on one. -/
import Derived.Test.YtpkfalhpkkponaaCyclic
import Derived.Test.YtpkfalhpkkponaaCycLoops
import Derived.Test.YtpkfalhpkkponaaGrammar
import Derived.Test.YtpkfalhpkkponaaApartP
import Derived.Test.YtpkfalhpkkponaaWorks
import Derived.Test.YtpkfalhpkkponaaContBool
import Derived.Test.YtpkfalhpkkponaaOpen
namespace Go.Proofs.Ytpkfalhpkkponaa
open Go.RowKit
set_option linter.unusedVariables false

set_option maxRecDepth 100000 in
set_option maxHeartbeats 8000000 in
theorem cycleIsOne_any (A0 : Option Addr) (c0 : Nat) (raw : List Int) (S0 : Nat → Prop) (w : World) (h1 : raw.length ≤ c0) (h2 : c0 ≤ 9223372036854775807) (hA0 : Els w S0 raw A0) (hS0 : ∀ b, S0 b → b < w.heap.size) :
    Calls Try.prog 6 #[.slice A0 raw.length c0] w fun e w' => e = .returned (.bool true) ∧ Below w.heap.size w w' := by
  go_enter Try.func6, Try.ntmps6
  go_wp2_with fail
  refine (grammar_any A0 c0 raw S0 _ h1 h2 hA0 hS0).mono ?_
  rintro e w1 ⟨g, v, hmade, rfl, hvl, hb1⟩
  obtain ⟨s, rfl, _, _, _, hs⟩ := hvl.gram
  obtain ⟨A, c, rfl, hlc, hc, hA⟩ := hs.slice
  have hck := made_check hmade
  have hvg := validG_of hck
  obtain ⟨t, nn, s0, rs⟩ := g
  dsimp only at *
  obtain ⟨n, hn⟩ : ∃ n : Nat, nn = (n : Int) := ⟨nn.toNat, by have := hvg.n1; dsimp only at this; omega⟩
  obtain ⟨m, hm⟩ : ∃ m : Nat, t = (m : Int) := ⟨t.toNat, by have := hvg.t1; dsimp only at this; omega⟩
  subst hn; subst hm
  have hpi := passIn_of hvg (n := n) rfl
  have hn10 : 1 ≤ n ∧ n ≤ 10 := by have := hvg.n1; have := hvg.n10; dsimp only at *; omega
  have hrl32 : rs.length ≤ 32 := hvg.len
  have HCk := Lib.hid hck
  have HPI := Lib.hid hpi
  have hba : Below w1.heap.size w1 (w1.alloc (.cells #[.int .i64 (m : Int), .int .i64 (n : Int), .int .i64 s0, .slice A rs.length c] 49)) := (Below.refl _ _).alloc (Nat.le_refl _) _
  have HA1 := Lib.hid ((hA.keep (S' := fun b => b < w1.heap.size) (fun _ _ _ => rfl) (fun b hb => hb.2)).below hba)
  have HB1 := Lib.hid (bthen hb1 hba hb1.size)
  have hz1 : w.heap.size ≤ w1.heap.size := hb1.size
  have HG1 := Lib.hid (Blk'.new w1 49 #[.int .i64 (m : Int), .int .i64 (n : Int), .int .i64 s0, .slice A rs.length c])
  obtain ⟨w2, hw2⟩ : ∃ w2 : World, w2 = w1.alloc (.cells #[.int .i64 (m : Int), .int .i64 (n : Int), .int .i64 s0, .slice A rs.length c] 49) := ⟨_, rfl⟩
  rw [← hw2] at HA1 HB1 HG1
  have HW2 := Lib.hid hw2
  have a0 : w2.cell? ⟨w1.heap.size, 0, none⟩ = some (.int .i64 (m : Int)) := HG1.out.cell 0
  have a1 : w2.cell? ⟨w1.heap.size, 1, none⟩ = some (.int .i64 (n : Int)) := HG1.out.cell 1
  have a2 : w2.cell? ⟨w1.heap.size, 2, none⟩ = some (.int .i64 s0) := HG1.out.cell 2
  have a3 : w2.cell? ⟨w1.heap.size, 3, none⟩ = some (.slice A rs.length c) := HG1.out.cell 3
  have zG : w1.heap.size < w2.heap.size := HG1.out.lt
  clear hvl hs hA hb1 hba hmade hA0 hck hvg hw2 hpi
  go_upto_region 2 with (fail)
  rw [← HW2.out]
  go_wp2_with fail
  refine (cyclic_any ⟨(m : Int), (n : Int), s0, rs⟩ m n A c _ w2 rfl rfl HCk.out hlc hc HA1.out (fun b hb => by omega)).mono ?_
  rintro e w3 hret
  have hb3 : Below w2.heap.size w2 w3 := by rcases hret with ⟨_, _, h⟩ | ⟨_, _, _, _, _, _, _, _, _, h⟩ <;> exact h
  have HRet := Lib.hid hret
  have HB3 := Lib.hid (bthen HB1.out hb3 HB1.out.size)
  have HG3 := Lib.hid (HG1.out.below hb3 HG1.out.lt)
  have HA3 := Lib.hid (HA1.out.belowB hb3 (fun b hb => by omega))
  have z3 := hb3.size
  obtain ⟨Al, nl, cl, ve, he⟩ : ∃ Al nl cl ve, e = .returned (.tuple #[.slice Al nl cl, .int .i64 ve]) := by
    rcases hret with ⟨h, _⟩ | ⟨b, c', k, i, q, l, h, _⟩
    · exact ⟨_, _, _, _, h⟩
    · exact ⟨_, _, _, _, h⟩
  subst he
  have b0 : w3.cell? ⟨w1.heap.size, 0, none⟩ = some (.int .i64 (m : Int)) := HG3.out.cell 0
  have b1 : w3.cell? ⟨w1.heap.size, 1, none⟩ = some (.int .i64 (n : Int)) := HG3.out.cell 1
  have b2 : w3.cell? ⟨w1.heap.size, 2, none⟩ = some (.int .i64 s0) := HG3.out.cell 2
  have b3 : w3.cell? ⟨w1.heap.size, 3, none⟩ = some (.slice A rs.length c) := HG3.out.cell 3
  have zG3 : w1.heap.size < w3.heap.size := HG3.out.lt
  clear a0 a1 a2 a3 hret hb3
  go_wp2_with fail
  refine (loops_any ⟨(m : Int), (n : Int), s0, rs⟩ m n A c _ w3 rfl rfl HCk.out hlc hc HA3.out (fun b hb => by omega)).mono ?_
  rintro e w4 ⟨vl, lo, rfl, hlo, hown, hb4⟩
  obtain ⟨Ao, co, rfl, hco1, hco2, hco3⟩ := hown.form
  have HLo := Lib.hid hlo
  have HOo := Lib.hid hown
  have HB4 := Lib.hid (bthen HB3.out hb4 HB3.out.size)
  have HB34 := Lib.hid hb4
  have HG4 := Lib.hid (HG3.out.below hb4 HG3.out.lt)
  have hlol : lo.length = n := hlo.1
  have HLol := Lib.hid hlol
  clear b0 b1 b2 b3 hlo hown hb4 hco3
  go_wp2_with fail
  refine (works_any _).mono ?_
  rintro e w5 ⟨rfl, hb5⟩
  have HB5 := Lib.hid (bthen HB4.out hb5 HB4.out.size)
  have HB35 := Lib.hid (bthen HB34.out hb5 HB34.out.size)
  have HG5 := Lib.hid (HG4.out.below hb5 HG4.out.lt)
  have HO5 := Lib.hid (HOo.out.below hb5 (Nat.le_refl _))
  have HE5 := Lib.hid HO5.out.vl.els.2.2.2
  have HA5 := Lib.hid (HA3.out.belowB HB35.out (fun b hb => by omega))
  have d1 : w5.cell? ⟨w1.heap.size, 1, none⟩ = some (.int .i64 (n : Int)) := HG5.out.cell 1
  have zG5 : w1.heap.size < w5.heap.size := HG5.out.lt
  have hlo9 : lo.length ≤ 9223372036854775807 := by omega
  clear hb5 hlol
  go_wp2_with fail
  refine (containsBool_any Ao n co lo true _ _ HLol.out.symm hlo9 HE5.out).mono ?_
  rintro e w6 ⟨rfl, hw6⟩
  have hkeep : Below w5.heap.size w5 w6 := by first | exact hw6 | (subst hw6; exact Below.refl _ _)
  have HK6 := Lib.hid hkeep
  have HG6 := Lib.hid (HG5.out.below hkeep HG5.out.lt)
  have e1 : w6.cell? ⟨w1.heap.size, 1, none⟩ = some (.int .i64 (n : Int)) := HG6.out.cell 1
  have zG6 : w1.heap.size < w6.heap.size := HG6.out.lt
  clear d1 hkeep hw6
  rcases HRet.out with ⟨he, hno, _⟩ | ⟨b, c', k, i, q, l, he, hcf, hown, _⟩
  · obtain ⟨⟨rfl, rfl, rfl⟩, rfl⟩ : (Al = none ∧ nl = 0 ∧ cl = 0) ∧ ve = 5 := by simpa using he
    have d0 : decide (true ∈ lo) = false := decide_eq_false (fun hm => by
      obtain ⟨x, hx⟩ := List.mem_iff_getElem?.1 hm
      have hx2 := (List.getElem?_eq_some_iff.1 hx).1
      exact (noCyc_iff HPI.out).1 hno x ((HLo.out.2 x (by have := HLol.out; omega)).1 hx))
    clear he hno
    rw [d0]
    go_wp2
    go_ret
    exact ⟨rfl, bthen HB5.out HK6.out HB5.out.size⟩
  · obtain ⟨⟨rfl, rfl, rfl⟩, rfl⟩ : (Al = some ⟨b, 0, none⟩ ∧ nl = l.length ∧ cl = c') ∧ ve = 0 := by simpa using he
    have hon := hcf.on HPI.out
    have hll : l.length = k := by have := hcf.way.len; have := hcf.k1; omega
    have hkn := hcf.k1
    have HOn := Lib.hid hon
    have d0 : decide (true ∈ lo) = true := decide_eq_true (by
      obtain ⟨q', hq', hp⟩ := hon 0 _ hcf.way.head
      have hq2 := HPI.out.left q' (List.mem_of_getElem? hq'.2)
      exact List.mem_of_getElem? ((HLo.out.2 q'.left.toNat (by omega)).2 hp))
    have HL6 := Lib.hid (((hown.below HB35.out (Nat.le_refl _)).below HK6.out (Nat.le_refl _)).vl.els.2.2.2)
    have HO6 := Lib.hid (HE5.out.below HK6.out)
    have HA6 := Lib.hid (HA5.out.belowB HK6.out (fun b hb => by omega))
    have hl1 : (1 : Int) ≤ (l.length : Int) := by omega
    have hl2 : (l.length : Int) ≤ (n : Int) := by omega
    have hl3 : ((l.length : Int) == 0) = false := by rw [beq_eq_false_iff_ne]; omega
    have hl4 : l.length ≤ 100 := by omega
    have hl5 : ¬ l.length = 0 := by omega
    have hl6 : ¬ l = [] := by intro h; rw [h] at hll; simp at hll; omega
    clear he hcf hon hown hll hkn
    rw [d0]
    go_wp2_with fail
    clear e1
    go_loopw [61] (fun i wr => ∃ t : Nat, t ≤ l.length ∧ i = .int .i64 t ∧ Below w6.heap.size w6 wr) (fun i _ => l.length - (intOf i).toNat)
    case atStart => exact ⟨0, Nat.zero_le _, rfl, Below.refl _ _⟩
    case round =>
      obtain ⟨wz, hwz⟩ : ∃ wz : World, wz = wr := ⟨_, rfl⟩
      subst hwz
      obtain ⟨t, ht, rfl, hbz⟩ := hrel
      have HBz := Lib.hid hbz
      have hGz := HG6.out.below hbz HG6.out.lt
      have z3 : wz.cell? ⟨w1.heap.size, 3, none⟩ = some (.slice A rs.length c) := hGz.cell 3
      have zGz : w1.heap.size < wz.heap.size := hGz.lt
      clear hbz hGz
      by_cases htl : t < l.length
      · obtain ⟨x, hx⟩ := get_some htl
        obtain ⟨b9, o9, hbe, hS9, hb9, hxi, hxc⟩ := (HL6.out.below HBz.out).int hx
        injection hbe with hbe
        injection hbe with q1 q2 _
        subst q1; subst q2
        rw [Nat.zero_add] at hxc
        obtain ⟨q', ⟨hx0, hq'⟩, hp⟩ := HOn.out t x hx
        dsimp only at hq'
        obtain ⟨y, rfl⟩ : ∃ y : Nat, x = (y : Int) := ⟨x.toNat, by omega⟩
        rw [Int.toNat_natCast] at hq'
        obtain ⟨bq, oq, Aq, cq, rfl, hSb, hbs, hqi, hrc, hcr, hEr, hc0, hc1⟩ := (HA6.out.belowB HBz.out (fun b hb => by have := HK6.out.size; have := HB35.out.size; omega)).rule hq'
        have hql := HPI.out.left q' (List.mem_of_getElem? hq')
        have hyl := (List.getElem?_eq_some_iff.1 hq').1
        obtain ⟨ql, qr⟩ := q'
        dsimp only at hqi hrc hcr hEr hc0 hc1 hql hp
        obtain ⟨z, rfl⟩ : ∃ z : Nat, ql = (z : Int) := ⟨ql.toNat, by omega⟩
        rw [Int.toNat_natCast] at hp
        have hlz := (HLo.out.2 z (by omega)).2 hp
        obtain ⟨b8, o8, rfl, hS8, hb8, hlc8⟩ := (HO6.out.below HBz.out).bool hlz
        have ht0 : (0 : Int) ≤ (t : Int) := by omega
        have hy0 : (0 : Int) ≤ (y : Int) := by omega
        have hy9 : (y : Int) < (rs.length : Int) := by omega
        have hzz0 : (0 : Int) ≤ (z : Int) := by omega
        have hz9 : (z : Int) < (n : Int) := by omega
        clear hx hp hq' hlz hEr hxi hqi
        go_wp2
        go_roundw
        case rel => exact ⟨_, _, .int .i64 ((t : Int) + 1), ⟨t + 1, htl, by go_num, HBz.out⟩, rfl, rfl, rfl⟩
        case measure => simp [intOf]; omega
      · go_wp2
        go_ret
        exact ⟨rfl, bthen (bthen HB5.out HK6.out HB5.out.size) HBz.out (by have := HB5.out.size; have := HK6.out.size; omega)⟩

theorem cycleIsOne_row (l : List Int) (v : Value) (W : World) (h : Vl W (OldS W) l v) :
    Calls Try.prog 6 #[v] W fun e W' => e = .returned (.bool true) ∧ Below W.heap.size W W' := by
  obtain ⟨A, c, rfl, k1, k2, hA⟩ := h.slice
  exact cycleIsOne_any A c l (OldS W) W k1 k2 hA (fun b h => h)
end Go.Proofs.Ytpkfalhpkkponaa
