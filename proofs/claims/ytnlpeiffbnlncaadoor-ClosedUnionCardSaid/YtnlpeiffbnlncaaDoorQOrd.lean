/- Contracts: gram.Order, slices.CompareFunc at symbols with gram.Order, gram.Compare. -/
import Derived.Test.YtnlpeiffbnlncaaDoorQw1
import Derived.Deep.RegionHeld3
import Derived.Deep.DrawnRows
namespace Go.Proofs.YtnlpeiffbnlncaaDoor
open Go.RowKit
set_option linter.unusedVariables false

def symCmp (a b : Sym) : Int := if a.term = b.term then cmpI a.n b.n else if a.term then -1 else 1
def symsCmp : List Sym → List Sym → Int
  | [], [] => 0
  | [], _ :: _ => -1
  | _ :: _, [] => 1
  | x :: xs, y :: ys => if symCmp x y = 0 then symsCmp xs ys else symCmp x y
def ruleCmp (a b : Rule) : Int := orI [cmpI a.left b.left, symsCmp a.right b.right]
theorem symCmp_range (a b : Sym) : I64 (symCmp a b) := by
  unfold symCmp
  split
  · exact cmpI_range _ _
  · split <;> (unfold I64; omega)
theorem symsCmp_range : ∀ (a b : List Sym), I64 (symsCmp a b)
  | [], [] => by unfold symsCmp I64; omega
  | [], _ :: _ => by unfold symsCmp I64; omega
  | _ :: _, [] => by unfold symsCmp I64; omega
  | x :: xs, y :: ys => by
    unfold symsCmp
    split
    · exact symsCmp_range xs ys
    · exact symCmp_range x y

theorem order_any (t t' : Bool) (z z' : Int) (w : World) : Calls Tryd.prog 110 #[.agg #[.bool t, .int .i64 z], .agg #[.bool t', .int .i64 z']] w fun e w' => e = .returned (.int .i64 (symCmp ⟨t, z⟩ ⟨t', z'⟩)) ∧ Below w.heap.size w w' := by
  cases t <;> cases t' <;> (
    go_enter Tryd.func110, Tryd.ntmps110
    go_wp2_with (go_at_call 105; refine (cmpInt_any _ _ _).mono ?_; rintro e w' ⟨rfl, rfl⟩)
    go_ret
    exact ⟨ret_int (by simp [symCmp]), ((Below.refl _ _).alloc (Nat.le_refl _) _).alloc (by simp) _⟩)

set_option maxRecDepth 100000 in
set_option maxHeartbeats 400000 in
theorem compareFunc_any (A A' : Option Addr) (c c' : Nat) (xs ys : List Sym) (S : Nat → Prop) (w : World) (hm : xs.length ≤ 9223372036854775807) (hm' : ys.length ≤ 9223372036854775807) (hA : Els w S xs A) (hA' : Els w S ys A') :
    Calls Tryd.prog 109 #[.slice A xs.length c, .slice A' ys.length c', .func (.func 110) #[] #[]] w
      fun e w' => e = .returned (.int .i64 (symsCmp xs ys)) ∧ Below w.heap.size w w' := by
  go_enter Tryd.func109, Tryd.ntmps109
  go_wp2
  go_loopw [13] (fun i wr => ∃ k : Nat, k ≤ xs.length ∧ k ≤ ys.length ∧ i = .int .i64 k ∧ symsCmp xs ys = symsCmp (xs.drop k) (ys.drop k) ∧ Below w.heap.size w wr) (fun i _ => xs.length - (intOf i).toNat)
  case atStart => exact ⟨0, Nat.zero_le _, Nat.zero_le _, rfl, rfl, Below.refl _ _⟩
  case round =>
    obtain ⟨k, hk, hk', rfl, hr, hb⟩ := hrel
    have Hr := Lib.hid hr
    have Hb := Lib.hid hb
    have HA := (hA.below hb)
    have HA' := (hA'.below hb)
    clear hr hb hA hA'
    by_cases hlt : k < xs.length
    · obtain ⟨x, hx⟩ := get_some hlt
      obtain ⟨b, o, rfl, _, hbs, hi, hc0, hc1⟩ := HA.sym hx
      have Hd := Lib.hid (drop_cons hx)
      clear hx HA
      by_cases hlt' : k < ys.length
      · obtain ⟨y, hy⟩ := get_some hlt'
        obtain ⟨b', o', rfl, _, hbs', hi', hc0', hc1'⟩ := HA'.sym hy
        have Hd' := Lib.hid (drop_cons hy)
        clear hy HA'
        obtain ⟨t, z⟩ := x
        obtain ⟨t', z'⟩ := y
        dsimp only at hc0 hc1 hc0' hc1'
        go_wp2_with fail
        refine (order_any _ _ _ _ _).mono ?_
        rintro e w1 ⟨rfl, hb1⟩
        have Hb1 := Lib.hid hb1
        clear hb1 hc0 hc1 hc0' hc1'
        by_cases h0 : symCmp ⟨t, z⟩ ⟨t', z'⟩ = 0
        · have e0 : symsCmp xs ys = symsCmp (xs.drop (k + 1)) (ys.drop (k + 1)) := by rw [Hr.out, Hd.out, Hd'.out, symsCmp, if_pos h0]
          have E0 := Lib.hid e0
          clear e0
          rw [h0]
          go_wp2
          go_roundw
          case rel => exact ⟨k + 1, by omega, by omega, by go_num, E0.out, (Hb.out).trans ((((Below.refl _ _).alloc (Nat.le_refl _) _).alloc (by simp) _).trans (Hb1.out.mono (by simp; omega)) |>.mono (Hb.out.size))⟩
          case measure => simp [intOf]; omega
        · have e0 : symsCmp xs ys = symCmp ⟨t, z⟩ ⟨t', z'⟩ := by rw [Hr.out, Hd.out, Hd'.out, symsCmp, if_neg h0]
          have E0 := Lib.hid e0
          clear e0
          have h1 : (symCmp ⟨t, z⟩ ⟨t', z'⟩ != 0) = true := by simpa using h0
          clear h0
          go_wp2
          go_ret
          exact ⟨ret_int E0.out.symm, (Hb.out).trans ((((Below.refl _ _).alloc (Nat.le_refl _) _).alloc (by simp) _).trans (Hb1.out.mono (by simp; omega)) |>.mono (Hb.out.size))⟩
      · have e0 : symsCmp xs ys = 1 := by rw [Hr.out, Hd.out, List.drop_of_length_le (l := ys) (i := k) (by omega)]; rfl
        have E0 := Lib.hid e0
        clear e0
        go_wp2
        go_ret
        exact ⟨ret_int E0.out.symm, (Hb.out).alloc Hb.out.size _⟩
    · by_cases hlt' : k < ys.length
      · obtain ⟨y, hy⟩ := get_some hlt'
        have e0 : symsCmp xs ys = -1 := by rw [Hr.out, drop_cons hy, List.drop_of_length_le (by omega)]; rfl
        have E0 := Lib.hid e0
        clear e0 hy HA HA'
        have : xs.length < ys.length := by omega
        go_wp2
        go_ret
        exact ⟨ret_int E0.out.symm, Hb.out⟩
      · have e0 : symsCmp xs ys = 0 := by rw [Hr.out, List.drop_of_length_le (by omega), List.drop_of_length_le (by omega)]; rfl
        have E0 := Lib.hid e0
        clear e0 HA HA'
        have : ¬ xs.length < ys.length := by omega
        go_wp2
        go_ret
        exact ⟨ret_int E0.out.symm, Hb.out⟩

attribute [local go_sem ↓] Go.wp_at_zero Go.wp_at_succ
set_option maxRecDepth 100000 in
set_option maxHeartbeats 400000 in
theorem compare_any (l l' : Int) (A A' : Option Addr) (c c' : Nat) (xs ys : List Sym) (S : Nat → Prop) (w : World) (hm : xs.length ≤ 9223372036854775807) (hm' : ys.length ≤ 9223372036854775807) (hA : Els w S xs A) (hA' : Els w S ys A') :
    Calls Tryd.prog 82 #[.agg #[.int .i64 l, .slice A xs.length c], .agg #[.int .i64 l', .slice A' ys.length c']] w
      fun e w' => e = .returned (.int .i64 (ruleCmp ⟨l, xs⟩ ⟨l', ys⟩)) ∧ Below w.heap.size w w' := by
  go_enter Tryd.func82, Tryd.ntmps82
  go_wp2
  have z2 : w.heap.size < w.heap.size + 1 + 1 := by omega
  go_region_held3 (fun w' => w'.cell? ⟨w.heap.size, 0, none⟩ = some (.int .i64 l) ∧ w'.cell? ⟨w.heap.size, 1, none⟩ = some (.slice A xs.length c) ∧ w'.cell? ⟨w.heap.size + 1, 0, none⟩ = some (.int .i64 l') ∧ w'.cell? ⟨w.heap.size + 1, 1, none⟩ = some (.slice A' ys.length c')) (go_keep)
    (first
      | (go_at_call 105; refine (cmpInt_any _ _ _).mono ?_; rintro e w' ⟨rfl, rfl⟩)
      | (go_at_call 109; refine (compareFunc_any A A' c c' xs ys S _ hm hm' (hA.below ?_) (hA'.below ?_)).mono ?_; (repeat (first | exact Below.refl _ _ | refine Below.drew ?_ | refine Below.alloc ?_ (by simp) _)); (repeat (first | exact Below.refl _ _ | refine Below.drew ?_ | refine Below.alloc ?_ (by simp) _)); rintro e w1 ⟨rfl, hb1⟩; obtain ⟨hc1, hf1⟩ := bcell hb1)
      | (go_at_call 104; refine (or2_any _ _ (cmpI l l') (symsCmp xs ys) _ ?_ ?_ ?_ ?_ ?_ ?_).mono ?_; exact cmpI_range _ _; exact symsCmp_range _ _; omega; omega; exact World.cell?_alloc_new _ _ _ _; exact World.cell?_alloc_new _ _ _ _; rintro e w' ⟨rfl, rfl⟩))
  all_goals
    clear hc1 hf1
    go_wp2
    go_ret
    exact ⟨ret_int rfl, (bthen (((Below.refl _ _).alloc (Nat.le_refl _) _).alloc (by simp) _).drew hb1 (by simp; omega)).alloc (by have := hb1.size; simp at this; omega) _⟩
end Go.Proofs.YtnlpeiffbnlncaaDoor
