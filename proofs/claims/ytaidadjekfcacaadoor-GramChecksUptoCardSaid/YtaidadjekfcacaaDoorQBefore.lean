/- Contracts: the reference's weight and Before. -/
import Derived.Test.YtaidadjekfcacaaDoorQOrd
import Derived.Deep.QuietTactic
import Derived.BigQuiet
namespace Go.Proofs.YtaidadjekfcacaaDoor
open Go.RowKit
set_option linter.unusedVariables false

def weightI (s : Sym) : Int := if s.term then s.n else 1099511627776 + s.n
def symsLt : List Sym → List Sym → Bool
  | [], ys => decide (0 < ys.length)
  | _ :: _, [] => false
  | x :: xs, y :: ys => if x = y then symsLt xs ys else decide (weightI x < weightI y)
def ruleLt (a b : Rule) : Bool := if a.left = b.left then symsLt a.right b.right else decide (a.left < b.left)

theorem weight_any (t : Bool) (z : Int) (w : World) (h0 : -1000000000 ≤ z) (h1 : z ≤ 1000000000) :
    Calls Tryd.prog 148 #[.agg #[.bool t, .int .i64 z]] w fun e w' => e = .returned (.int .i64 (weightI ⟨t, z⟩)) ∧ Below w.heap.size w w' := by
  cases t <;> (
    go_enter Tryd.func148, Tryd.ntmps148
    go_wp2
    go_ret
    exact ⟨ret_int (by simp [weightI]), (Below.refl _ _).alloc (Nat.le_refl _) _⟩)

attribute [local go_sem ↓] Go.wp_at_zero Go.wp_at_succ
set_option maxRecDepth 100000 in
set_option maxHeartbeats 1000000 in
theorem before_any (l l' : Int) (A A' : Option Addr) (c c' : Nat) (xs ys : List Sym) (S : Nat → Prop) (w : World) (hm : xs.length ≤ 9223372036854775807) (hm' : ys.length ≤ 9223372036854775807) (hA : Els w S xs A) (hA' : Els w S ys A')
    (hx : ∀ s ∈ xs, -1000000000 ≤ s.n ∧ s.n ≤ 1000000000) (hy : ∀ s ∈ ys, -1000000000 ≤ s.n ∧ s.n ≤ 1000000000) :
    Calls Tryd.prog 108 #[.agg #[.int .i64 l, .slice A xs.length c], .agg #[.int .i64 l', .slice A' ys.length c']] w
      fun e w' => e = .returned (.bool (ruleLt ⟨l, xs⟩ ⟨l', ys⟩)) ∧ Below w.heap.size w w' := by
  have HX := Lib.hid hx
  have HY := Lib.hid hy
  clear hx hy
  by_cases hl : l = l'
  · subst hl
    have hres : ruleLt ⟨l, xs⟩ ⟨l, ys⟩ = symsLt xs ys := by simp [ruleLt]
    rw [hres]
    clear hres
    go_enter Tryd.func108, Tryd.ntmps108
    go_wp2
    go_loopw [20] (fun i wr => ∃ k : Nat, k ≤ xs.length ∧ k ≤ ys.length ∧ i = .int .i64 k ∧ symsLt xs ys = symsLt (xs.drop k) (ys.drop k) ∧ Below w.heap.size w wr ∧ w.heap.size + 2 ≤ wr.heap.size ∧ wr.cell? ⟨w.heap.size, 1, none⟩ = some (.slice A xs.length c) ∧ wr.cell? ⟨w.heap.size + 1, 1, none⟩ = some (.slice A' ys.length c')) (fun i _ => xs.length - (intOf i).toNat)
    case atStart => exact ⟨0, Nat.zero_le _, Nat.zero_le _, rfl, rfl, ((Below.refl _ _).alloc (Nat.le_refl _) _).alloc (by simp) _, by simp, by go_simp, by go_simp⟩
    case round =>
      obtain ⟨k, hk, hk', rfl, hr, hb, hsz, hca, hcb⟩ := hrel
      have Hr := Lib.hid hr
      have Hb := Lib.hid hb
      have HA := (hA.below hb)
      have HA' := (hA'.below hb)
      have hs1 : w.heap.size < wr.heap.size := by omega
      have hs2 : w.heap.size + 1 < wr.heap.size := by omega
      clear hr hb hA hA'
      by_cases hlt : k < xs.length
      · obtain ⟨x, hx⟩ := get_some hlt
        obtain ⟨b, o, rfl, _, hbs, hi, hc0, hc1⟩ := HA.sym hx
        have Hd := Lib.hid (drop_cons hx)
        have HBx := Lib.hid (HX.out x (List.mem_of_getElem? hx))
        clear hx HA
        by_cases hlt' : k < ys.length
        · obtain ⟨y, hy⟩ := get_some hlt'
          obtain ⟨b', o', rfl, _, hbs', hi', hc0', hc1'⟩ := HA'.sym hy
          have Hd' := Lib.hid (drop_cons hy)
          have HBy := Lib.hid (HY.out y (List.mem_of_getElem? hy))
          clear hy HA'
          obtain ⟨t, z⟩ := x
          obtain ⟨t', z'⟩ := y
          dsimp only at hc0 hc1 hc0' hc1'
          have hne : ((k : Int) == (ys.length : Int)) = false := by simp; omega
          have hk0 : (0 : Int) ≤ (k : Int) := by omega
          have hk1 : (k : Int) < (ys.length : Int) := by omega
          by_cases he : (⟨t, z⟩ : Sym) = ⟨t', z'⟩
          · have e0 : symsLt xs ys = symsLt (xs.drop (k + 1)) (ys.drop (k + 1)) := by rw [Hr.out, Hd.out, Hd'.out, symsLt, if_pos he]
            have E0 := Lib.hid e0
            clear e0
            injection he with h1 h2
            subst h1; subst h2
            clear HBx HBy
            go_wp2
            go_quiet (fail)
            go_wp2
            go_roundw
            case rel => exact ⟨k + 1, by omega, by omega, by go_num, E0.out, bdrewN (Hb.out.alloc Hb.out.size _), by simp; omega, by go_simp, by go_simp⟩
            case measure => simp [intOf]; omega
          · have e0 : symsLt xs ys = decide (weightI ⟨t, z⟩ < weightI ⟨t', z'⟩) := by rw [Hr.out, Hd.out, Hd'.out, symsLt, if_neg he]
            have E0 := Lib.hid e0
            clear e0
            have Hne := Lib.hid he
            clear he
            by_cases htt : t = t'
            · subst htt
              have hzz : (z == z') = false := by simp; rintro rfl; exact Hne.out rfl
              go_wp2
              go_quiet (fail)
              go_wp2
              have z2 : w.heap.size + 1 < wr.heap.size + 1 := by omega
              have z3 : b' < wr.heap.size + 1 := by omega
              have tok1 : True := trivial
              go_region_held3 (fun w' => w'.cell? ⟨wr.heap.size, 0, none⟩ = some (.bool t) ∧ w'.cell? ⟨wr.heap.size, 1, none⟩ = some (.int .i64 z) ∧ w'.cell? ⟨w.heap.size + 1, 1, none⟩ = some (.slice (some ⟨b', o', none⟩) ys.length c') ∧ w'.cell? ⟨b', o' + k * 2, none⟩ = some (.bool t) ∧ w'.cell? ⟨b', o' + k * 2 + 1, none⟩ = some (.int .i64 z')) (go_keep)
                (first
                | (go_at_call 148; have _t := tok1; refine (weight_any _ _ _ HBx.out.1 HBx.out.2).mono ?_; rintro e w1 ⟨rfl, hb1⟩; clear tok1 _t; obtain ⟨hx1, hf1⟩ := bcell hb1; have hz1 := hb1.size; simp at hz1; have y1 : wr.heap.size < w1.heap.size := (by omega); have y2 : w.heap.size + 1 < w1.heap.size := (by omega); have y3 : b' < w1.heap.size := (by omega))
                | (go_at_call 148; refine (weight_any _ _ _ HBy.out.1 HBy.out.2).mono ?_; rintro e w2 ⟨rfl, hb2⟩; obtain ⟨hx2, hf2⟩ := bcell hb2))
              all_goals
                clear hx1 hf1 hx2 hf2
                go_wp2
                go_ret
                exact ⟨ret_bool E0.out.symm, bthen (bthen (bdrewN (Hb.out.alloc Hb.out.size _)).drew hb1 (by simp; omega)) hb2 (by omega)⟩
            · have htb : (t == t') = false := by simpa using htt
              clear htt
              go_wp2
              go_quiet (fail)
              go_wp2
              have z2 : w.heap.size + 1 < wr.heap.size + 1 := by omega
              have z3 : b' < wr.heap.size + 1 := by omega
              have tok1 : True := trivial
              go_region_held3 (fun w' => w'.cell? ⟨wr.heap.size, 0, none⟩ = some (.bool t) ∧ w'.cell? ⟨wr.heap.size, 1, none⟩ = some (.int .i64 z) ∧ w'.cell? ⟨w.heap.size + 1, 1, none⟩ = some (.slice (some ⟨b', o', none⟩) ys.length c') ∧ w'.cell? ⟨b', o' + k * 2, none⟩ = some (.bool t') ∧ w'.cell? ⟨b', o' + k * 2 + 1, none⟩ = some (.int .i64 z')) (go_keep)
                (first
                | (go_at_call 148; have _t := tok1; refine (weight_any _ _ _ HBx.out.1 HBx.out.2).mono ?_; rintro e w1 ⟨rfl, hb1⟩; clear tok1 _t; obtain ⟨hx1, hf1⟩ := bcell hb1; have hz1 := hb1.size; simp at hz1; have y1 : wr.heap.size < w1.heap.size := (by omega); have y2 : w.heap.size + 1 < w1.heap.size := (by omega); have y3 : b' < w1.heap.size := (by omega))
                | (go_at_call 148; refine (weight_any _ _ _ HBy.out.1 HBy.out.2).mono ?_; rintro e w2 ⟨rfl, hb2⟩; obtain ⟨hx2, hf2⟩ := bcell hb2))
              all_goals
                clear hx1 hf1 hx2 hf2
                go_wp2
                go_ret
                exact ⟨ret_bool E0.out.symm, bthen (bthen (bdrewN (Hb.out.alloc Hb.out.size _)).drew hb1 (by simp; omega)) hb2 (by omega)⟩
        · have e0 : symsLt xs ys = false := by rw [Hr.out, Hd.out, List.drop_of_length_le (l := ys) (i := k) (by omega)]; rfl
          have E0 := Lib.hid e0
          clear e0
          have hne : ((k : Int) == (ys.length : Int)) = true := by simp; omega
          go_wp2
          go_ret
          exact ⟨ret_bool E0.out.symm, (Hb.out).alloc Hb.out.size _⟩
      · have e0 : symsLt xs ys = decide (xs.length < ys.length) := by
          rw [Hr.out, List.drop_of_length_le (l := xs) (by omega), symsLt]
          have hkx : k = xs.length := by omega
          subst hkx
          simp; omega
        have E0 := Lib.hid e0
        clear e0
        go_wp2
        go_ret
        exact ⟨ret_bool E0.out.symm, Hb.out⟩
  · have hres : ruleLt ⟨l, xs⟩ ⟨l', ys⟩ = decide (l < l') := by simp [ruleLt, hl]
    rw [hres]
    have hb : (l != l') = true := by simpa using hl
    clear hres hl
    by_cases hll : l < l'
    all_goals
      go_enter Tryd.func108, Tryd.ntmps108
      go_wp2
      go_ret
      exact ⟨ret_bool (by simp [hll]), ((Below.refl _ _).alloc (Nat.le_refl _) _).alloc (by simp) _⟩
end Go.Proofs.YtaidadjekfcacaaDoor
