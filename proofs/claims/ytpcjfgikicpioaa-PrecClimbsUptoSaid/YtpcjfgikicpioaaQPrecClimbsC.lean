/- The walk of the law PrecClimbs: Climb returns what chapter 18 specifies, for words of at most 9 or more than 500 terminals. -/
import Derived.Test.YtpcjfgikicpioaaQClimbOf
import Derived.Test.YtpcjfgikicpioaaQClimbBad
import Derived.Test.YtpcjfgikicpioaaQRefErr
import Derived.Test.YtpcjfgikicpioaaQRefFlat
import Derived.Test.YtpcjfgikicpioaaQWordErr
import Derived.Test.YtpcjfgikicpioaaQSameTreeD
import Derived.Test.YtpcjfgikicpioaaQp2
namespace Go.Proofs.Ytpcjfgikicpioaa
open Go.RowKit
set_option linter.unusedVariables false

theorem plus_word : wordE plusT.terms [0, 1] 500 = 0 := by decide
theorem plus_ok : precCheck plusT = 0 := by decide
theorem plus_i64 : I64 plusT.terms ∧ I64 plusT.atom ∧ I64 plusT.opn ∧ I64 plusT.cls := ⟨⟨by decide, by decide⟩, ⟨by decide, by decide⟩, ⟨by decide, by decide⟩, ⟨by decide, by decide⟩⟩
/-- A call of Climb: what it leaves, whether the arguments are valid or not. -/
def ClimbRes (t : Table) (l : List Int) (w : World) (e : Ending) (w' : World) : Prop :=
  ∃ (x : Tree) (A : Option Addr) (c : Nat) (k E : Int), e = .returned (.tuple #[.agg #[.int .i64 x.rule, .int .i64 x.term, .slice A x.kids.length c], .int .i64 k, .int .i64 E]) ∧ x.kids.length ≤ c ∧ c ≤ 9223372036854775807 ∧ Els w' (fun b => w.heap.size ≤ b ∧ b < w'.heap.size) x.kids A ∧ Below w.heap.size w w' ∧
    ((climbE t l ≠ 0 ∧ E = climbE t l ∧ k = 0 ∧ x = ⟨0, 0, []⟩) ∨ (climbE t l = 0 ∧ ((Lv t 0 x l ∧ k = 0 ∧ E = 0) ∨ (∃ (q : Nat) (r : Res), ParE t l 0 0 r ∧ RejAt l q r ∧ E = 10 ∧ k = (q : Int) ∧ x = ⟨0, 0, []⟩))))

theorem climbRes_any (t : Table) (l : List Int) (A B : Option Addr) (c d : Nat) (S S' : Nat → Prop) (w : World) (h64 : I64 t.terms ∧ I64 t.atom ∧ I64 t.opn ∧ I64 t.cls) (hlc : t.levels.length ≤ c) (hc : c ≤ 9223372036854775807) (hA : Els w S t.levels A) (hS : ∀ b, S b → b < w.heap.size)
    (hB : Els w S' l B) (hS' : ∀ b, S' b → b < w.heap.size) (hN : (allOps t).length ≤ 2000000) (hld : l.length ≤ d) (hd : d ≤ 9223372036854775807) :
    Calls Try.prog 6 #[.agg #[.int .i64 t.terms, .int .i64 t.atom, .int .i64 t.opn, .int .i64 t.cls, .slice A t.levels.length c], .slice B l.length d] w (ClimbRes t l w) := by
  by_cases h0 : climbE t l = 0
  · have hp : precCheck t = 0 := by
      unfold climbE at h0
      split at h0
      · rename_i h; exact absurd h0 h
      · rename_i h; simpa using h
    have hw : wordE t.terms l 500 = 0 := by
      unfold climbE at h0
      rw [if_neg (fun h => h hp)] at h0
      exact h0
    obtain ⟨r, hr, ha⟩ := climb_total t l
    refine (climb_any t l A B c d S S' w h64 hlc hc hA hS hB hS' hp hw hld hd r hr).mono ?_
    intro e w' hret
    have hrej : ∀ q, RejAt l q r → RejC q w e w' → ClimbRes t l w e w' := fun q hq ⟨he, hb⟩ => ⟨⟨0, 0, []⟩, none, 0, q, 10, he, Nat.le_refl _, by omega, fun h => absurd rfl h, hb, .inr ⟨h0, .inr ⟨q, r, hr, hq, rfl, rfl, rfl⟩⟩⟩
    cases r with
    | rej q => exact hrej q rfl hret
    | ok x q =>
      by_cases hlt : q < l.length
      · exact hrej q ⟨rfl, hlt⟩ (by have h := hret; simpa only [RetC, if_pos hlt] using h)
      · have h : ∃ (A : Option Addr) (c : Nat), e = .returned (.tuple #[.agg #[.int .i64 x.rule, .int .i64 x.term, .slice A x.kids.length c], .int .i64 0, .int .i64 0]) ∧ I64 x.rule ∧ I64 x.term ∧ x.kids.length ≤ c ∧ c ≤ 9223372036854775807 ∧ Els w' (fun b => w.heap.size ≤ b ∧ b < w'.heap.size) x.kids A ∧ Below w.heap.size w w' := by simpa only [RetC, if_neg hlt] using hret
        obtain ⟨A', c', he, _, _, h1, h2, h3, h4⟩ := h
        have hq : q = l.length := by have := ha.2; omega
        subst hq
        exact ⟨x, A', c', 0, 0, he, h1, h2, h3, h4, .inr ⟨h0, .inl ⟨lv_acc hr, rfl, rfl⟩⟩⟩
  · refine (climbBad_any t l A B c d S S' w h64 hlc hc hA hS hB hS' h0 hN hld hd).mono ?_
    rintro e w' ⟨he, hb⟩
    exact ⟨⟨0, 0, []⟩, none, 0, 0, climbE t l, he, Nat.le_refl _, by omega, fun h => absurd rfl h, hb, .inl ⟨h0, rfl, rfl, rfl⟩⟩
theorem same_zero (x : Tree) (S : Nat → Prop) (w : World) (A : Option Addr) (c : Nat) (h1 : x.kids.length ≤ c) (h2 : c ≤ 9223372036854775807) (hA : Els w S x.kids A) :
    Calls Try.prog 11 #[.agg #[.int .i64 x.rule, .int .i64 x.term, .slice A x.kids.length c], .agg #[.int .i64 0, .int .i64 0, .slice none 0 0]] w fun e w' => e = .returned (.bool (decide (x = ⟨0, 0, []⟩))) ∧ Below w.heap.size w w' :=
  sameTree_any S (fun _ => False) x ⟨0, 0, []⟩ A none c 0 w ⟨h1, h2⟩ ⟨Nat.le_refl _, by omega⟩ hA (fun h => absurd rfl h)

set_option maxRecDepth 100000 in
set_option maxHeartbeats 8000000 in
theorem precClimbs_any (t : Table) (A : Option Addr) (c : Nat) (S : Nat → Prop) (l : List Int) (B : Option Addr) (d : Nat) (S' : Nat → Prop) (w : World) (h64 : I64 t.terms ∧ I64 t.atom ∧ I64 t.opn ∧ I64 t.cls) (hlc : t.levels.length ≤ c) (hc : c ≤ 9223372036854775807) (hA : Els w S t.levels A) (hS : ∀ b, S b → b < w.heap.size)
    (hB : Els w S' l B) (hS' : ∀ b, S' b → b < w.heap.size) (hN : (allOps t).length ≤ 2000000) (hld : l.length ≤ d) (hd : d ≤ 9223372036854775807) :
    Calls Try.prog 3 #[.agg #[.int .i64 t.terms, .int .i64 t.atom, .int .i64 t.opn, .int .i64 t.cls, .slice A t.levels.length c], .slice B l.length d] w fun e w' => e = .returned (.bool true) ∧ Below w.heap.size w w' := by
  have HS := Lib.hid hS
  have HS' := Lib.hid hS'
  have H64 := Lib.hid h64
  have HN := Lib.hid hN
  obtain ⟨w1, hw1⟩ : ∃ w1 : World, w1 = w.alloc (.cells #[.int .i64 t.terms, .int .i64 t.atom, .int .i64 t.opn, .int .i64 t.cls, .slice A t.levels.length c] 24) := ⟨_, rfl⟩
  have HW1 := Lib.hid hw1
  have hb1 : Below w.heap.size w w1 := by rw [hw1]; exact (Below.refl _ _).alloc (Nat.le_refl _) _
  have hT1 : Blk' w1 w.heap.size 24 #[.int .i64 t.terms, .int .i64 t.atom, .int .i64 t.opn, .int .i64 t.cls, .slice A t.levels.length c] := by rw [hw1]; exact Blk'.new w _ _
  have HB1 := Lib.hid hb1
  have HT1 := Lib.hid hT1
  have HA1 := Lib.hid (hA.below hb1)
  have HL1 := Lib.hid (hB.below hb1)
  clear hS hS' h64 hN hw1 hb1 hT1 hA hB
  go_enter Try.func3, Try.ntmps3
  go_upto_region 1 with (fail)
  rw [← HW1.out]
  go_wp2_with fail
  refine (plus_any w1).mono ?_
  rintro e w2 ⟨Ap, rfl, hAp, hb2⟩
  have HAp := Lib.hid hAp
  have HB2 := Lib.hid (bthen HB1.out hb2 HB1.out.size)
  have HT2 := Lib.hid (HT1.out.below hb2 HT1.out.lt)
  have HA2 := Lib.hid (HA1.out.below hb2)
  have HL2 := Lib.hid (HL1.out.below hb2)
  clear hAp hb2
  obtain ⟨w3, hw3⟩ : ∃ w3 : World, w3 = w2.alloc (.cells #[.int .i64 0, .int .i64 1] 3) := ⟨_, rfl⟩
  have hb3 : Below w2.heap.size w2 w3 := by rw [hw3]; exact (Below.refl _ _).alloc (Nat.le_refl _) _
  have hE3 : Els w3 (fun b => b = w2.heap.size) [(0 : Int), 1] (some ⟨w2.heap.size, 0, none⟩) := by
    rw [hw3]
    exact els_of_blk [[.int .i64 0], [.int .i64 1]] (Blk'.new w2 3 #[.int .i64 0, .int .i64 1]) rfl rfl (rd_two ⟨rfl, by decide, by decide⟩ ⟨rfl, by decide, by decide⟩) rfl
  have HE3 := Lib.hid hE3
  have hz3 : w2.heap.size < w3.heap.size := by rw [hw3]; simp
  have HB3 := Lib.hid hb3
  go_wp2_with fail
  rw [← hw3]
  refine (climb_any plusT [0, 1] Ap (some ⟨w2.heap.size, 0, none⟩) 1 2 _ _ w3 plus_i64 (by decide) (by omega) (HAp.out.below HB3.out) (fun b hb => Nat.lt_trans hb hz3) HE3.out (fun b hb => by rw [hb]; exact hz3) plus_ok plus_word (by decide) (by omega) (.rej 2) plus_rej).mono ?_
  rintro e w4 ⟨rfl, hb4⟩
  have hb24 : Below w2.heap.size w2 w4 := bthen HB3.out hb4 HB3.out.size
  have HB4 := Lib.hid (bthen HB2.out hb24 HB2.out.size)
  have HT4 := Lib.hid (HT2.out.below hb24 HT2.out.lt)
  have HA4 := Lib.hid (HA2.out.below hb24)
  have HL4 := Lib.hid (HL2.out.below hb24)
  obtain ⟨w5, hw5⟩ : ∃ w5 : World, w5 = w4.alloc (.cells #[.int .i64 0, .int .i64 0, .slice none 0 0] 28) := ⟨_, rfl⟩
  have HW5 := Lib.hid hw5
  have hb5 : Below w4.heap.size w4 w5 := by rw [hw5]; exact (Below.refl _ _).alloc (Nat.le_refl _) _
  have HZ5 : Hid (Blk' w5 w4.heap.size 28 #[.int .i64 0, .int .i64 0, .slice none 0 0]) := Lib.hid (by rw [hw5]; exact Blk'.new w4 _ _)
  have HB5 := Lib.hid (bthen HB4.out hb5 HB4.out.size)
  have HT5 := Lib.hid (HT4.out.below hb5 HT4.out.lt)
  have HA5 := Lib.hid (HA4.out.below hb5)
  have HL5 := Lib.hid (HL4.out.below hb5)
  have t0 : w5.cell? ⟨w.heap.size, 0, none⟩ = some (.int .i64 t.terms) := HT5.out.cell 0
  have t1 : w5.cell? ⟨w.heap.size, 1, none⟩ = some (.int .i64 t.atom) := HT5.out.cell 1
  have t2 : w5.cell? ⟨w.heap.size, 2, none⟩ = some (.int .i64 t.opn) := HT5.out.cell 2
  have t3 : w5.cell? ⟨w.heap.size, 3, none⟩ = some (.int .i64 t.cls) := HT5.out.cell 3
  have t4 : w5.cell? ⟨w.heap.size, 4, none⟩ = some (.slice A t.levels.length c) := HT5.out.cell 4
  have zT : w.heap.size < w5.heap.size := HT5.out.lt
  have x2 : w5.cell? ⟨w4.heap.size, 2, none⟩ = some (.slice none 0 0) := HZ5.out.cell 2
  have zX : w4.heap.size < w5.heap.size := HZ5.out.lt
  clear hb4 hb24 hw5 hb5 hw3 hb3 hE3 hz3
  go_upto_region 2 with (fail)
  rw [← HW5.out]
  go_wp2_with fail
  refine (climbRes_any t l A B c d S S' w5 H64.out hlc hc HA5.out (fun b hb => Nat.lt_of_lt_of_le (HS.out b hb) HB5.out.size) HL5.out (fun b hb => Nat.lt_of_lt_of_le (HS'.out b hb) HB5.out.size) HN.out hld hd).mono ?_
  rintro e w6 ⟨x, Ax, cx, k, E, rfl, q1, q2, hEx, hb6, hcase⟩
  have HCase := Lib.hid hcase
  have HB6 := Lib.hid (bthen HB5.out hb6 HB5.out.size)
  have HT6 := Lib.hid (HT5.out.below hb6 HT5.out.lt)
  have HA6 := Lib.hid (HA5.out.below hb6)
  have HL6 := Lib.hid (HL5.out.below hb6)
  have HEx := Lib.hid hEx
  obtain ⟨w7, hw7⟩ : ∃ w7 : World, w7 = w6.alloc (.cells #[.int .i64 x.rule, .int .i64 x.term, .slice Ax x.kids.length cx] 28) := ⟨_, rfl⟩
  have HW7 := Lib.hid hw7
  have hb7 : Below w6.heap.size w6 w7 := by rw [hw7]; exact (Below.refl _ _).alloc (Nat.le_refl _) _
  have HX7 : Hid (Blk' w7 w6.heap.size 28 #[.int .i64 x.rule, .int .i64 x.term, .slice Ax x.kids.length cx]) := Lib.hid (by rw [hw7]; exact Blk'.new w6 _ _)
  have HB7 := Lib.hid (bthen HB6.out hb7 HB6.out.size)
  have HT7 := Lib.hid (HT6.out.below hb7 HT6.out.lt)
  have HA7 := Lib.hid (HA6.out.below hb7)
  have HL7 := Lib.hid (HL6.out.below hb7)
  have HE7 := Lib.hid (HEx.out.below hb7)
  clear t0 t1 t2 t3 t4 zT x2 zX hb6 hcase hEx hw7 hb7
  have t0 : w7.cell? ⟨w.heap.size, 0, none⟩ = some (.int .i64 t.terms) := HT7.out.cell 0
  have t1 : w7.cell? ⟨w.heap.size, 1, none⟩ = some (.int .i64 t.atom) := HT7.out.cell 1
  have t2 : w7.cell? ⟨w.heap.size, 2, none⟩ = some (.int .i64 t.opn) := HT7.out.cell 2
  have t3 : w7.cell? ⟨w.heap.size, 3, none⟩ = some (.int .i64 t.cls) := HT7.out.cell 3
  have t4 : w7.cell? ⟨w.heap.size, 4, none⟩ = some (.slice A t.levels.length c) := HT7.out.cell 4
  have zT : w.heap.size < w7.heap.size := HT7.out.lt
  go_upto_region 5 with (fail)
  rw [← HW7.out]
  go_wp2_with fail
  refine (precErr_any t A c S w7 H64.out hlc hc HA7.out (fun b hb => Nat.lt_of_lt_of_le (HS.out b hb) HB7.out.size) HN.out).mono ?_
  rintro e w8 ⟨rfl, hb8⟩
  have HB8 := Lib.hid (bthen HB7.out hb8 HB7.out.size)
  have HT8 := Lib.hid (HT7.out.below hb8 HT7.out.lt)
  have HA8 := Lib.hid (HA7.out.below hb8)
  have HL8 := Lib.hid (HL7.out.below hb8)
  have HX8 := Lib.hid (HX7.out.below hb8 HX7.out.lt)
  have HE8 := Lib.hid (HE7.out.below hb8)
  obtain ⟨P, hP⟩ : ∃ P : Int, P = precCheck t := ⟨_, rfl⟩
  rw [← hP]
  have HP := Lib.hid hP
  clear t0 t1 t2 t3 t4 zT hb8 hP
  by_cases hp : P = 0
  rotate_left
  · have hcl : climbE t l = P := by unfold climbE; rw [if_pos (by rw [← HP.out]; exact hp), HP.out]
    have e0 : (P == 0) = false := by simp [hp]
    have e1 : (P != 0) = true := by simp [hp]
    obtain ⟨_, hE, hk, hx⟩ : climbE t l ≠ 0 ∧ E = climbE t l ∧ k = 0 ∧ x = ⟨0, 0, []⟩ := by
      rcases HCase.out with h | ⟨h, _⟩
      · exact h
      · exact absurd (hcl.symm.trans h) hp
    rw [hcl] at hE
    clear hcl hp HCase
    subst hE; subst hk; subst hx
    have x0 : w8.cell? ⟨w6.heap.size, 0, none⟩ = some (.int .i64 0) := HX8.out.cell 0
    have x1 : w8.cell? ⟨w6.heap.size, 1, none⟩ = some (.int .i64 0) := HX8.out.cell 1
    have x2 : w8.cell? ⟨w6.heap.size, 2, none⟩ = some (.slice Ax 0 cx) := HX8.out.cell 2
    have zX : w6.heap.size < w8.heap.size := HX8.out.lt
    go_wp2_with fail
    refine (same_zero ⟨0, 0, []⟩ _ _ Ax cx q1 q2 (HE8.out.below (by first | exact Below.refl _ _ | exact (Below.refl _ _).drew | exact bdrewN (Below.refl _ _)))).mono ?_
    rintro e wf ⟨rfl, hbf⟩
    rw [decide_eq_true rfl]
    have HBf : Hid (Below w.heap.size w wf) := Lib.hid (bthen HB8.out (by first | exact hbf | exact bundrew hbf | exact bundrewN hbf) HB8.out.size)
    clear hbf x0 x1 x2 zX
    go_wp2
    go_ret
    exact ⟨rfl, HBf.out⟩
  · subst hp
    have hpc : precCheck t = 0 := HP.out.symm
    have hv := valid_of hpc
    have hfl : flatRulesB (decide (t.opn ≠ -1)) t = flatRules t := by rw [← hv.hbrk]; rfl
    have HV := Lib.hid hv
    have HPc := Lib.hid hpc
    have HFl := Lib.hid (show (flatRulesB (decide (t.opn ≠ -1)) t).length ≤ 1000000 by rw [hfl]; exact (hv.small true).1.1)
    have t0 : w8.cell? ⟨w.heap.size, 0, none⟩ = some (.int .i64 t.terms) := HT8.out.cell 0
    have t1 : w8.cell? ⟨w.heap.size, 1, none⟩ = some (.int .i64 t.atom) := HT8.out.cell 1
    have t2 : w8.cell? ⟨w.heap.size, 2, none⟩ = some (.int .i64 t.opn) := HT8.out.cell 2
    have t3 : w8.cell? ⟨w.heap.size, 3, none⟩ = some (.int .i64 t.cls) := HT8.out.cell 3
    have t4 : w8.cell? ⟨w.heap.size, 4, none⟩ = some (.slice A t.levels.length c) := HT8.out.cell 4
    have zT : w.heap.size < w8.heap.size := HT8.out.lt
    clear hpc hv hfl
    go_wp2_with fail
    refine (refFlat_any t A c S w8 H64.out hlc hc HA8.out (fun b hb => Nat.lt_of_lt_of_le (HS.out b hb) HB8.out.size) HFl.out).mono ?_
    rintro e w9 ⟨v, rfl, hown, hb9⟩
    obtain ⟨Av, cv, rfl, _, _, _⟩ := hown.form
    have HB9 := Lib.hid (bthen HB8.out hb9 HB8.out.size)
    have HT9 := Lib.hid (HT8.out.below hb9 HT8.out.lt)
    have HA9 := Lib.hid (HA8.out.below hb9)
    have HL9 := Lib.hid (HL8.out.below hb9)
    have HX9 := Lib.hid (HX8.out.below hb9 HX8.out.lt)
    have HE9 := Lib.hid (HE8.out.below hb9)
    clear t0 t1 t2 t3 t4 zT hown hb9
    go_wp2_with fail
    refine (wordErr_any t.terms 1 0 500 _ l B d S' w9 (by omega) HL9.out (fun b hb => Nat.lt_of_lt_of_le (HS'.out b hb) HB9.out.size) ⟨_, _, _, rfl⟩).mono ?_
    rintro e w10 ⟨rfl, hb10⟩
    have HB10 := Lib.hid (bthen HB9.out hb10 HB9.out.size)
    have HT10 := Lib.hid (HT9.out.below hb10 HT9.out.lt)
    have HA10 := Lib.hid (HA9.out.below hb10)
    have HL10 := Lib.hid (HL9.out.below hb10)
    have HX10 := Lib.hid (HX9.out.below hb10 HX9.out.lt)
    have HE10 := Lib.hid (HE9.out.below hb10)
    obtain ⟨Q, hQ⟩ : ∃ Q : Int, Q = wordE t.terms l 500 := ⟨_, rfl⟩
    rw [← hQ]
    have hcl : climbE t l = Q := by unfold climbE; rw [if_neg (fun h => h HPc.out), hQ]
    have HCl := Lib.hid hcl
    clear hQ hcl hb10
    by_cases hq : Q = 0
    rotate_left
    · have e1 : (Q != 0) = true := by simp [hq]
      obtain ⟨_, hE, hk, hx⟩ : climbE t l ≠ 0 ∧ E = climbE t l ∧ k = 0 ∧ x = ⟨0, 0, []⟩ := by
        rcases HCase.out with h | ⟨h, _⟩
        · exact h
        · exact absurd (HCl.out.symm.trans h) hq
      rw [HCl.out] at hE
      clear hq HCase
      subst hE; subst hk; subst hx
      have x0 : w10.cell? ⟨w6.heap.size, 0, none⟩ = some (.int .i64 0) := HX10.out.cell 0
      have x1 : w10.cell? ⟨w6.heap.size, 1, none⟩ = some (.int .i64 0) := HX10.out.cell 1
      have x2 : w10.cell? ⟨w6.heap.size, 2, none⟩ = some (.slice Ax 0 cx) := HX10.out.cell 2
      have zX : w6.heap.size < w10.heap.size := HX10.out.lt
      go_wp2_with fail
      refine (same_zero ⟨0, 0, []⟩ _ _ Ax cx q1 q2 (HE10.out.below (by first | exact Below.refl _ _ | exact (Below.refl _ _).drew | exact bdrewN (Below.refl _ _)))).mono ?_
      rintro e wf ⟨rfl, hbf⟩
      rw [decide_eq_true rfl]
      have HBf : Hid (Below w.heap.size w wf) := Lib.hid (bthen HB10.out (by first | exact hbf | exact bundrew hbf | exact bundrewN hbf) HB10.out.size)
      clear hbf x0 x1 x2 zX
      go_wp2
      go_ret
      exact ⟨rfl, HBf.out⟩
    · subst hq
      by_cases hl9 : 9 < l.length
      · have e2 : decide ((l.length : Int) > 9) = true := decide_eq_true (by omega)
        have e3 : decide (9 < l.length) = true := decide_eq_true hl9
        go_wp2
        go_ret
        exact ⟨rfl, HB10.out⟩
      · have e2 : decide ((l.length : Int) > 9) = false := decide_eq_false (by omega)
        have e3 : decide (9 < l.length) = false := decide_eq_false hl9
        have hl100 : l.length ≤ 100 := by omega
        have t0 : w10.cell? ⟨w.heap.size, 0, none⟩ = some (.int .i64 t.terms) := HT10.out.cell 0
        have t1 : w10.cell? ⟨w.heap.size, 1, none⟩ = some (.int .i64 t.atom) := HT10.out.cell 1
        have t2 : w10.cell? ⟨w.heap.size, 2, none⟩ = some (.int .i64 t.opn) := HT10.out.cell 2
        have t3 : w10.cell? ⟨w.heap.size, 3, none⟩ = some (.int .i64 t.cls) := HT10.out.cell 3
        have t4 : w10.cell? ⟨w.heap.size, 4, none⟩ = some (.slice A t.levels.length c) := HT10.out.cell 4
        have zT : w.heap.size < w10.heap.size := HT10.out.lt
        go_wp2_with fail
        refine (climbOf_any t A c S HV.out H64.out hlc hc l hl100 B d S' w10 hld hd HA10.out (fun b hb => Nat.lt_of_lt_of_le (HS.out b hb) HB10.out.size) HL10.out (fun b hb => Nat.lt_of_lt_of_le (HS'.out b hb) HB10.out.size)).mono ?_
        have hgood : (Lv t 0 x l ∧ k = 0 ∧ E = 0) ∨ (∃ (q : Nat) (r : Res), ParE t l 0 0 r ∧ RejAt l q r ∧ E = 10 ∧ k = (q : Int) ∧ x = ⟨0, 0, []⟩) := by
          rcases HCase.out with ⟨h, _⟩ | ⟨_, h⟩
          · exact absurd HCl.out h
          · exact h
        rintro e w11 (⟨y, Ay, cy, hy, rfl, hoy, hb11⟩ | ⟨n, hlong, rfl, hb11⟩)
        · rcases hgood with ⟨hx, hk, hE⟩ | ⟨q, r, hr, hra, _⟩
          · have hxy := lv_uniq HV.out hx hy
            have HXY := Lib.hid hxy
            have HB11 := Lib.hid (bthen HB10.out hb11 HB10.out.size)
            have HT11 := Lib.hid (HT10.out.below hb11 HT10.out.lt)
            have HA11 := Lib.hid (HA10.out.below hb11)
            have HL11 := Lib.hid (HL10.out.below hb11)
            have HX11 := Lib.hid (HX10.out.below hb11 HX10.out.lt)
            have HE11 := Lib.hid (HE10.out.below hb11)
            have HOy := Lib.hid hoy
            subst hk; subst hE
            clear hx hy hxy hoy
            obtain ⟨w12, hw12⟩ : ∃ w12 : World, w12 = w11.alloc (.cells #[.int .i64 y.rule, .int .i64 y.term, .slice Ay y.kids.length cy] 28) := ⟨_, rfl⟩
            have HW12 := Lib.hid hw12
            have hb12 : Below w11.heap.size w11 w12 := by rw [hw12]; exact (Below.refl _ _).alloc (Nat.le_refl _) _
            have HY12 : Hid (Blk' w12 w11.heap.size 28 #[.int .i64 y.rule, .int .i64 y.term, .slice Ay y.kids.length cy]) := Lib.hid (by rw [hw12]; exact Blk'.new w11 _ _)
            have HB12 := Lib.hid (bthen HB11.out hb12 HB11.out.size)
            have HT12 := Lib.hid (HT11.out.below hb12 HT11.out.lt)
            have HA12 := Lib.hid (HA11.out.below hb12)
            have HL12 := Lib.hid (HL11.out.below hb12)
            have HX12 := Lib.hid (HX11.out.below hb12 HX11.out.lt)
            have HE12 := Lib.hid (HE11.out.below hb12)
            have HO12 := Lib.hid (HOy.out.below hb12 (Nat.le_refl _))
            clear t0 t1 t2 t3 t4 zT hb11 hb12 hw12
            have x0 : w12.cell? ⟨w6.heap.size, 0, none⟩ = some (.int .i64 x.rule) := HX12.out.cell 0
            have x1 : w12.cell? ⟨w6.heap.size, 1, none⟩ = some (.int .i64 x.term) := HX12.out.cell 1
            have x2 : w12.cell? ⟨w6.heap.size, 2, none⟩ = some (.slice Ax x.kids.length cx) := HX12.out.cell 2
            have zX : w6.heap.size < w12.heap.size := HX12.out.lt
            have y0 : w12.cell? ⟨w11.heap.size, 0, none⟩ = some (.int .i64 y.rule) := HY12.out.cell 0
            have y1 : w12.cell? ⟨w11.heap.size, 1, none⟩ = some (.int .i64 y.term) := HY12.out.cell 1
            have y2 : w12.cell? ⟨w11.heap.size, 2, none⟩ = some (.slice Ay y.kids.length cy) := HY12.out.cell 2
            have zY : w11.heap.size < w12.heap.size := HY12.out.lt
            go_upto_region 13 with (fail)
            rw [← HW12.out]
            go_wp2_with fail
            refine (sameTree_any _ _ x y Ax Ay cx cy w12 ⟨q1, q2⟩ ⟨HO12.out.2.2.1, HO12.out.2.2.2.1⟩ HE12.out HO12.out.2.2.2.2).mono ?_
            rintro e wf ⟨rfl, hbf⟩
            rw [decide_eq_true HXY.out]
            have HBf := Lib.hid (bthen HB12.out hbf HB12.out.size)
            clear hbf x0 x1 x2 zX y0 y1 y2 zY
            go_wp2
            go_ret
            exact ⟨rfl, HBf.out⟩
          · exact absurd hy (rej_none HV.out hr hra y)
        · rcases hgood with ⟨hx, _⟩ | ⟨q, r, hr, hra, hE, hk, hx⟩
          · exact absurd hx (hlong.none x)
          · have hqn := long_eq HV.out hr hra hlong
            subst hqn
            have HB11 := Lib.hid (bthen HB10.out hb11 HB10.out.size)
            have HT11 := Lib.hid (HT10.out.below hb11 HT10.out.lt)
            have HA11 := Lib.hid (HA10.out.below hb11)
            have HL11 := Lib.hid (HL10.out.below hb11)
            have HX11 := Lib.hid (HX10.out.below hb11 HX10.out.lt)
            have HE11 := Lib.hid (HE10.out.below hb11)
            clear hr hra hlong
            subst hE; subst hk; subst hx
            obtain ⟨w12, hw12⟩ : ∃ w12 : World, w12 = w11.alloc (.cells #[.int .i64 0, .int .i64 0, .slice none 0 0] 28) := ⟨_, rfl⟩
            have HW12 := Lib.hid hw12
            have hb12 : Below w11.heap.size w11 w12 := by rw [hw12]; exact (Below.refl _ _).alloc (Nat.le_refl _) _
            have HB12 := Lib.hid (bthen HB11.out hb12 HB11.out.size)
            have HT12 := Lib.hid (HT11.out.below hb12 HT11.out.lt)
            have HA12 := Lib.hid (HA11.out.below hb12)
            have HL12 := Lib.hid (HL11.out.below hb12)
            have HX12 := Lib.hid (HX11.out.below hb12 HX11.out.lt)
            have HE12 := Lib.hid (HE11.out.below hb12)
            clear t0 t1 t2 t3 t4 zT hb11 hb12 hw12
            have x0 : w12.cell? ⟨w6.heap.size, 0, none⟩ = some (.int .i64 0) := HX12.out.cell 0
            have x1 : w12.cell? ⟨w6.heap.size, 1, none⟩ = some (.int .i64 0) := HX12.out.cell 1
            have x2 : w12.cell? ⟨w6.heap.size, 2, none⟩ = some (.slice Ax 0 cx) := HX12.out.cell 2
            have zX : w6.heap.size < w12.heap.size := HX12.out.lt
            go_upto_region 13 with (fail)
            rw [← HW12.out]
            go_wp2_with fail
            refine (same_zero ⟨0, 0, []⟩ _ _ Ax cx q1 q2 (HE12.out.below (by first | exact Below.refl _ _ | exact (Below.refl _ _).drew | exact bdrewN (Below.refl _ _)))).mono ?_
            rintro e wf ⟨rfl, hbf⟩
            rw [decide_eq_true rfl]
            have HBf : Hid (Below w.heap.size w wf) := Lib.hid (bthen HB12.out (by first | exact hbf | exact bundrew hbf | exact bundrewN hbf) HB12.out.size)
            clear hbf x0 x1 x2 zX
            go_wp2
            go_ret
            exact ⟨rfl, HBf.out⟩

theorem blkAll_ints : ∀ (l : List Int), blkAll l = l.length
  | [] => rfl
  | x :: l => by rw [blkAll, blkAll_ints l, List.length_cons]; show 1 + _ = _; omega
theorem blkAll_levels : ∀ (l : List Level), ((l.map Level.ops).flatten).length ≤ blkAll l
  | [] => Nat.le_refl _
  | x :: l => by
    have h1 := blkAll_levels l
    have h2 : Blk.blk x = 2 + (blkAll x.ops + 1) := rfl
    rw [blkAll_ints] at h2
    simp only [List.map_cons, List.flatten_cons, List.length_append, blkAll]
    omega
theorem precClimbs_row (t : Table) (l : List Int) (v0 v1 : Value) (W : World) (h0 : Vl W (OldS W) t v0) (h1 : Vl W (OldS W) l v1) (hk : Blk.blk t + Blk.blk l ≤ 1048576) :
    Calls Try.prog 3 #[v0, v1] W fun e W' => e = .returned (.bool true) ∧ Below W.heap.size W W' := by
  obtain ⟨s, rfl, i1, i2, i3, i4, hs⟩ := h0.table
  obtain ⟨A, c, rfl, hc1, hc2, hA⟩ := hs.slice
  obtain ⟨B, d, rfl, hd1, hd2, hB⟩ := h1.slice
  refine precClimbs_any t A c (OldS W) l B d (OldS W) W ⟨i1, i2, i3, i4⟩ hc1 hc2 hA (fun b h => h) hB (fun b h => h) ?_ hd1 hd2
  have e1 : Blk.blk t = 5 + (blkAll t.levels + 1) := rfl
  have e2 := blkAll_levels t.levels
  have h5 : (allOps t).length ≤ 2 + ((t.levels.map Level.ops).flatten).length := by
    simp only [allOps, List.length_append]
    split <;> simp only [List.length_cons, List.length_nil] <;> omega
  omega
end Go.Proofs.Ytpcjfgikicpioaa
