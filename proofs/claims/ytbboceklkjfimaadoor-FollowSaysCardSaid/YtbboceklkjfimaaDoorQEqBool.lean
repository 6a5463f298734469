/- Contract: slices.Equal at bools, and at rows of bools by it. -/
import Derived.Test.YtbboceklkjfimaaDoorQp1
import Derived.Deep.QuietTactic
import Derived.BigQuiet
namespace Go.Proofs.YtbboceklkjfimaaDoor
open Go.RowKit
set_option linter.unusedVariables false

set_option maxRecDepth 100000 in
set_option maxHeartbeats 1000000 in
theorem equalBool_any (A A' : Option Addr) (xs ys : List Bool) (n n' c c' : Nat) (S S' : Nat → Prop) (w : World) (hn : n = xs.length) (hn' : n' = ys.length) (hm : xs.length ≤ 9223372036854775807) (hm' : ys.length ≤ 9223372036854775807) (hA : Els w S xs A) (hA' : Els w S' ys A') :
    Calls Tryd.prog 17 #[.slice A n c, .slice A' n' c'] w fun e w' => e = .returned (.bool (decide (xs = ys))) ∧ Below w.heap.size w w' := by
  subst hn; subst hn'
  by_cases hl : xs.length = ys.length
  · have hl' : ((xs.length : Int) != (ys.length : Int)) = false := by simp; omega
    have HL := Lib.hid hl
    clear hl
    go_enter Tryd.func17, Tryd.ntmps17
    go_wp2
    go_loopw [13] (fun i wr => ∃ k : Nat, k ≤ xs.length ∧ i = .int .i64 k ∧ Hid (xs.take k = ys.take k) ∧ Below w.heap.size w wr) (fun i _ => xs.length - (intOf i).toNat)
    case atStart => exact ⟨0, Nat.zero_le _, rfl, Lib.hid rfl, Below.refl _ _⟩
    case round =>
      obtain ⟨wo, hwo⟩ : ∃ wo : World, wo = wr := ⟨_, rfl⟩
      subst hwo
      obtain ⟨k, hk, rfl, HT, hb⟩ := hrel
      have HB := Lib.hid hb
      clear hb
      by_cases hlt : k < xs.length
      · have hlt' : k < ys.length := by have := HL.out; omega
        have hk1 : (k : Int) < (xs.length : Int) := by omega
        have hk2 : (k : Int) < (ys.length : Int) := by omega
        obtain ⟨x, hx⟩ := get_some hlt
        obtain ⟨y, hy⟩ := get_some hlt'
        obtain ⟨b, o, rfl, _, hbs, hc0⟩ := (hA.below HB.out).bool hx
        obtain ⟨b', o', rfl, _, hbs', hc0'⟩ := (hA'.below HB.out).bool hy
        have HX := Lib.hid (And.intro hx hy)
        have hk0 : (0 : Int) ≤ (k : Int) := by omega
        clear hx hy
        cases x
        · cases y
          · have HE := Lib.hid (take_eq HX.out.1 HX.out.2 rfl HT.out)
            go_wp2_with fail
            go_quiet (fail)
            go_wp2
            go_roundw
            case rel => exact ⟨k + 1, hlt, by go_num, HE, bdrewN HB.out⟩
            case measure => simp [intOf]; omega
          · have HE := Lib.hid (take_ne HX.out.1 HX.out.2 (by simp))
            go_wp2_with fail
            go_quiet (fail)
            go_wp2
            go_ret
            exact ⟨ret_bool (by simp [HE.out]), bdrewN HB.out⟩
        · cases y
          · have HE := Lib.hid (take_ne HX.out.1 HX.out.2 (by simp))
            go_wp2_with fail
            go_quiet (fail)
            go_wp2
            go_ret
            exact ⟨ret_bool (by simp [HE.out]), bdrewN HB.out⟩
          · have HE := Lib.hid (take_eq HX.out.1 HX.out.2 rfl HT.out)
            go_wp2_with fail
            go_quiet (fail)
            go_wp2
            go_roundw
            case rel => exact ⟨k + 1, hlt, by go_num, HE, bdrewN HB.out⟩
            case measure => simp [intOf]; omega
      · have HE := Lib.hid (take_all HL.out (by omega) HT.out)
        go_wp2
        go_ret
        exact ⟨ret_bool (by simp [HE.out]), HB.out⟩
  · have hl' : ((xs.length : Int) != (ys.length : Int)) = true := by simp; omega
    have HE : Hid (xs ≠ ys) := Lib.hid (by rintro rfl; exact hl rfl)
    clear hl
    go_enter Tryd.func17, Tryd.ntmps17
    go_wp2
    go_ret
    exact ⟨ret_bool (by simp [HE.out]), Below.refl _ _⟩

theorem Els.rowb {w : World} {S : Nat → Prop} {xs : List (List Bool)} {A : Option Addr} (h : Els w S xs A) {k : Nat} {r : List Bool} (hk : xs[k]? = some r) :
    ∃ b o Ar cr, A = some ⟨b, o, none⟩ ∧ S b ∧ b < w.heap.size ∧ r.length ≤ cr ∧ cr ≤ 9223372036854775807 ∧ Els w S r Ar ∧ w.cell? ⟨b, o + k, none⟩ = some (.slice Ar r.length cr) := by
  obtain ⟨b, o, cs, hA, hS, hlt, hrd, hat⟩ := h.at_ hk
  obtain ⟨v, rfl, hv⟩ := rd_slice hrd
  obtain ⟨Ar, cr, rfl, h1, h2, h3⟩ := hv.slice
  refine ⟨b, o, Ar, cr, hA, hS, hlt, h1, h2, h3, ?_⟩
  have e : Dat.size (List Bool) = 1 := rfl
  have h4 := hat.c0
  rw [e, Nat.mul_one] at h4
  exact h4

set_option maxRecDepth 100000 in
set_option maxHeartbeats 1000000 in
theorem eqRows_any (A A' : Option Addr) (xs ys : List (List Bool)) (n n' c c' : Nat) (S S' : Nat → Prop) (w : World) (hn : n = xs.length) (hn' : n' = ys.length) (hm : xs.length ≤ 9223372036854775807) (hm' : ys.length ≤ 9223372036854775807) (hr : ∀ r ∈ xs, r.length ≤ 9223372036854775807) (hr' : ∀ r ∈ ys, r.length ≤ 9223372036854775807) (hA : Els w S xs A) (hA' : Els w S' ys A') :
    Calls Tryd.prog 69 #[.slice A n c, .slice A' n' c', .func (.func 17) #[] #[]] w fun e w' => e = .returned (.bool (decide (xs = ys))) ∧ Below w.heap.size w w' := by
  subst hn; subst hn'
  have HR := Lib.hid (And.intro hr hr')
  clear hr hr'
  by_cases hl : xs.length = ys.length
  · have hl' : ((xs.length : Int) != (ys.length : Int)) = false := by simp; omega
    have HL := Lib.hid hl
    clear hl
    go_enter Tryd.func69, Tryd.ntmps69
    go_wp2
    go_loopw [17] (fun i wr => ∃ k : Nat, k ≤ xs.length ∧ i = .int .i64 k ∧ Hid (xs.take k = ys.take k) ∧ Below w.heap.size w wr) (fun i _ => xs.length - (intOf i).toNat)
    case atStart => exact ⟨0, Nat.zero_le _, rfl, Lib.hid rfl, Below.refl _ _⟩
    case round =>
      obtain ⟨wo, hwo⟩ : ∃ wo : World, wo = wr := ⟨_, rfl⟩
      subst hwo
      obtain ⟨k, hk, rfl, HT, hb⟩ := hrel
      have HB := Lib.hid hb
      clear hb
      by_cases hlt : k < xs.length
      · have hlt' : k < ys.length := by have := HL.out; omega
        have hk1 : (k : Int) < (xs.length : Int) := by omega
        have hk2 : (k : Int) < (ys.length : Int) := by omega
        obtain ⟨x, hx⟩ := get_some hlt
        obtain ⟨y, hy⟩ := get_some hlt'
        obtain ⟨b, o, Ax, cx, rfl, _, hbs, hx1, hx2, hEx, hc0⟩ := (hA.below HB.out).rowb hx
        obtain ⟨b', o', Ay, cy, rfl, _, hbs', hy1, hy2, hEy, hc0'⟩ := (hA'.below HB.out).rowb hy
        have HX := Lib.hid (And.intro hx hy)
        have hk0 : (0 : Int) ≤ (k : Int) := by omega
        have H1 := Lib.hid (And.intro hEx hEy)
        clear hx hy hEx hEy
        go_wp2_with fail
        refine (equalBool_any Ax Ay x y _ _ cx cy S S' _ rfl rfl (HR.out.1 x (List.mem_of_getElem? HX.out.1)) (HR.out.2 y (List.mem_of_getElem? HX.out.2)) H1.out.1 H1.out.2).mono ?_
        rintro e w1 ⟨rfl, hb1⟩
        have HZ := Lib.hid (bthen HB.out hb1 HB.out.size)
        clear hb1
        by_cases he : x = y
        · have HE := Lib.hid (take_eq HX.out.1 HX.out.2 he HT.out)
          rw [decide_eq_true he]
          clear he
          go_wp2
          go_roundw
          case rel => exact ⟨k + 1, hlt, by go_num, HE, HZ.out⟩
          case measure => simp [intOf]; omega
        · have HE := Lib.hid (take_ne HX.out.1 HX.out.2 he)
          rw [decide_eq_false he]
          clear he
          go_wp2
          go_ret
          exact ⟨ret_bool (by simp [HE.out]), HZ.out⟩
      · have HE := Lib.hid (take_all HL.out (by omega) HT.out)
        go_wp2
        go_ret
        exact ⟨ret_bool (by simp [HE.out]), HB.out⟩
  · have hl' : ((xs.length : Int) != (ys.length : Int)) = true := by simp; omega
    have HE : Hid (xs ≠ ys) := Lib.hid (by rintro rfl; exact hl rfl)
    clear hl
    go_enter Tryd.func69, Tryd.ntmps69
    go_wp2
    go_ret
    exact ⟨ret_bool (by simp [HE.out]), Below.refl _ _⟩

set_option maxRecDepth 100000 in
set_option maxHeartbeats 1000000 in
theorem sameRows_any (A A' : Option Addr) (xs ys : List (List Bool)) (n n' c c' : Nat) (S S' : Nat → Prop) (w : World) (hn : n = xs.length) (hn' : n' = ys.length) (hm : xs.length ≤ 9223372036854775807) (hm' : ys.length ≤ 9223372036854775807) (hr : ∀ r ∈ xs, r.length ≤ 9223372036854775807) (hr' : ∀ r ∈ ys, r.length ≤ 9223372036854775807) (hA : Els w S xs A) (hA' : Els w S' ys A') :
    Calls Tryd.prog 23 #[.slice A n c, .slice A' n' c'] w fun e w' => e = .returned (.bool (decide (xs = ys))) ∧ Below w.heap.size w w' := by
  subst hn; subst hn'
  go_enter Tryd.func23, Tryd.ntmps23
  go_wp2_with fail
  refine (eqRows_any A A' xs ys _ _ c c' S S' _ rfl rfl hm hm' hr hr' hA hA').mono ?_
  rintro e w1 ⟨rfl, hb1⟩
  obtain ⟨v, hv⟩ : ∃ v, v = decide (xs = ys) := ⟨_, rfl⟩
  rw [← hv]
  have HV := Lib.hid hv
  have HB := Lib.hid hb1
  clear hb1 hv
  go_wp2
  go_ret
  exact ⟨ret_bool HV.out, HB.out⟩
end Go.Proofs.YtbboceklkjfimaaDoor
