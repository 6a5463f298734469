/- Contracts once more: gram.Order, slices.CompareFunc at symbols with gram.Order, gram.Compare, gram.Sorted's closure: what lay stays, new blocks come behind it (what the shelf's sort asks of the comparison). -/
import Derived.Test.YtaidadjekfcacaaDoorQOrd
import Derived.Test.YtaidadjekfcacaaDoorQSortI
import Derived.Sort.Grow
namespace Go.Proofs.YtaidadjekfcacaaDoor
open Go.RowKit
set_option linter.unusedVariables false

/-- Draws, and new blocks behind what lay. -/
def Gr (w w' : World) : Prop := ∃ (q : Nat) (os : Array Obj), w' = Go.Sort.grow (w.drewN q) os
theorem Gr.refl (w : World) : Gr w w := ⟨0, #[], by rw [Go.Sort.grow_empty]; rfl⟩
theorem Gr.trans {a b c : World} (h : Gr a b) (k : Gr b c) : Gr a c := by
  obtain ⟨q, os, rfl⟩ := h
  obtain ⟨p, ot, rfl⟩ := k
  refine ⟨q + p, os ++ ot, ?_⟩
  unfold Go.Sort.grow World.drewN
  simp only [Array.append_assoc, Nat.add_assoc]
theorem Gr.alloc {a b : World} (h : Gr a b) (o : Obj) : Gr a (b.alloc o) := h.trans ⟨0, #[o], by rw [Go.Sort.alloc_eq_grow]; rfl⟩
theorem Gr.drew {a b : World} (h : Gr a b) : Gr a b.drew := h.trans ⟨1, #[], by rw [Go.Sort.grow_empty]; rfl⟩
theorem Gr.undrew {a b : World} (h : Gr a.drew b) : Gr a b := ((Gr.refl a).drew).trans h
theorem Gr.below {a b : World} (h : Gr a b) : Below a.heap.size a b := by
  obtain ⟨q, os, rfl⟩ := h
  refine ⟨rfl, rfl, rfl, by simp [Go.Sort.grow, World.drewN], fun k hk => ?_⟩
  show (a.heap ++ os)[k]? = a.heap[k]?
  rw [Array.getElem?_append_left hk]

theorem order_Gr (t t' : Bool) (z z' : Int) (w : World) : Calls Tryd.prog 143 #[.agg #[.bool t, .int .i64 z], .agg #[.bool t', .int .i64 z']] w fun e w' => e = .returned (.int .i64 (symCmp ⟨t, z⟩ ⟨t', z'⟩)) ∧ Gr w w' := by
  cases t <;> cases t' <;> (
    go_enter Tryd.func143, Tryd.ntmps143
    go_wp2_with (go_at_call 141; refine (cmpInt_any _ _ _).mono ?_; rintro e w' ⟨rfl, rfl⟩)
    go_ret
    exact ⟨ret_int (by simp [symCmp]), ((Gr.refl _).alloc _).alloc _⟩)

set_option maxRecDepth 100000 in
set_option maxHeartbeats 400000 in
theorem compareFunc_Gr (A A' : Option Addr) (c c' : Nat) (xs ys : List Sym) (S : Nat → Prop) (w : World) (hm : xs.length ≤ 9223372036854775807) (hm' : ys.length ≤ 9223372036854775807) (hA : Els w S xs A) (hA' : Els w S ys A') :
    Calls Tryd.prog 142 #[.slice A xs.length c, .slice A' ys.length c', .func (.func 143) #[] #[]] w
      fun e w' => e = .returned (.int .i64 (symsCmp xs ys)) ∧ Gr w w' := by
  go_enter Tryd.func142, Tryd.ntmps142
  go_wp2
  go_loopw [13] (fun i wr => ∃ k : Nat, k ≤ xs.length ∧ k ≤ ys.length ∧ i = .int .i64 k ∧ symsCmp xs ys = symsCmp (xs.drop k) (ys.drop k) ∧ Gr w wr) (fun i _ => xs.length - (intOf i).toNat)
  case atStart => exact ⟨0, Nat.zero_le _, Nat.zero_le _, rfl, rfl, Gr.refl _⟩
  case round =>
    obtain ⟨k, hk, hk', rfl, hr, hb⟩ := hrel
    have Hr := Lib.hid hr
    have Hb := Lib.hid hb
    have HA := (hA.below hb.below)
    have HA' := (hA'.below hb.below)
    clear hr hb hA hA'
    by_cases hlt : k < xs.length
    · obtain ⟨x, hx⟩ := get_some hlt
      obtain ⟨b, o, rfl, _, hbs, hi, hc0, hc1⟩ := HA.sym hx
      have Hd := Lib.hid (drop_cons hx)
      clear hx HA
      by_cases hlt' : k < ys.length
      · obtain ⟨y, hy⟩ := get_some hlt'
        obtain ⟨b', o', rfl, _, hbs', hi', hc0', hc1'⟩ := HA'.sym hy
        have Hd' := Lib.hid (drop_cons hy)
        clear hy HA'
        obtain ⟨t, z⟩ := x
        obtain ⟨t', z'⟩ := y
        dsimp only at hc0 hc1 hc0' hc1'
        go_wp2_with fail
        refine (order_Gr _ _ _ _ _).mono ?_
        rintro e w1 ⟨rfl, hb1⟩
        have Hb1 := Lib.hid hb1
        clear hb1 hc0 hc1 hc0' hc1'
        by_cases h0 : symCmp ⟨t, z⟩ ⟨t', z'⟩ = 0
        · have e0 : symsCmp xs ys = symsCmp (xs.drop (k + 1)) (ys.drop (k + 1)) := by rw [Hr.out, Hd.out, Hd'.out, symsCmp, if_pos h0]
          have E0 := Lib.hid e0
          clear e0
          rw [h0]
          go_wp2
          go_roundw
          case rel => exact ⟨k + 1, by omega, by omega, by go_num, E0.out, (Hb.out).trans ((((Gr.refl _).alloc _).alloc _).trans Hb1.out)⟩
          case measure => simp [intOf]; omega
        · have e0 : symsCmp xs ys = symCmp ⟨t, z⟩ ⟨t', z'⟩ := by rw [Hr.out, Hd.out, Hd'.out, symsCmp, if_neg h0]
          have E0 := Lib.hid e0
          clear e0
          have h1 : (symCmp ⟨t, z⟩ ⟨t', z'⟩ != 0) = true := by simpa using h0
          clear h0
          go_wp2
          go_ret
          exact ⟨ret_int E0.out.symm, (Hb.out).trans ((((Gr.refl _).alloc _).alloc _).trans Hb1.out)⟩
      · have e0 : symsCmp xs ys = 1 := by rw [Hr.out, Hd.out, List.drop_of_length_le (l := ys) (i := k) (by omega)]; rfl
        have E0 := Lib.hid e0
        clear e0
        go_wp2
        go_ret
        exact ⟨ret_int E0.out.symm, (Hb.out).alloc _⟩
    · by_cases hlt' : k < ys.length
      · obtain ⟨y, hy⟩ := get_some hlt'
        have e0 : symsCmp xs ys = -1 := by rw [Hr.out, drop_cons hy, List.drop_of_length_le (by omega)]; rfl
        have E0 := Lib.hid e0
        clear e0 hy HA HA'
        have : xs.length < ys.length := by omega
        go_wp2
        go_ret
        exact ⟨ret_int E0.out.symm, Hb.out⟩
      · have e0 : symsCmp xs ys = 0 := by rw [Hr.out, List.drop_of_length_le (by omega), List.drop_of_length_le (by omega)]; rfl
        have E0 := Lib.hid e0
        clear e0 HA HA'
        have : ¬ xs.length < ys.length := by omega
        go_wp2
        go_ret
        exact ⟨ret_int E0.out.symm, Hb.out⟩

attribute [local go_sem ↓] Go.wp_at_zero Go.wp_at_succ
set_option maxRecDepth 100000 in
set_option maxHeartbeats 400000 in
theorem compare_Gr (l l' : Int) (A A' : Option Addr) (c c' : Nat) (xs ys : List Sym) (S : Nat → Prop) (w : World) (hm : xs.length ≤ 9223372036854775807) (hm' : ys.length ≤ 9223372036854775807) (hA : Els w S xs A) (hA' : Els w S ys A') :
    Calls Tryd.prog 99 #[.agg #[.int .i64 l, .slice A xs.length c], .agg #[.int .i64 l', .slice A' ys.length c']] w
      fun e w' => e = .returned (.int .i64 (ruleCmp ⟨l, xs⟩ ⟨l', ys⟩)) ∧ Gr w w' := by
  go_enter Tryd.func99, Tryd.ntmps99
  go_wp2
  have z2 : w.heap.size < w.heap.size + 1 + 1 := by omega
  go_region_held3 (fun w' => w'.cell? ⟨w.heap.size, 0, none⟩ = some (.int .i64 l) ∧ w'.cell? ⟨w.heap.size, 1, none⟩ = some (.slice A xs.length c) ∧ w'.cell? ⟨w.heap.size + 1, 0, none⟩ = some (.int .i64 l') ∧ w'.cell? ⟨w.heap.size + 1, 1, none⟩ = some (.slice A' ys.length c')) (go_keep)
    (first
      | (go_at_call 141; refine (cmpInt_any _ _ _).mono ?_; rintro e w' ⟨rfl, rfl⟩)
      | (go_at_call 142; refine (compareFunc_Gr A A' c c' xs ys S _ hm hm' (hA.below ?_) (hA'.below ?_)).mono ?_; (repeat (first | exact Below.refl _ _ | refine Below.drew ?_ | refine Below.alloc ?_ (by simp) _)); (repeat (first | exact Below.refl _ _ | refine Below.drew ?_ | refine Below.alloc ?_ (by simp) _)); rintro e w1 ⟨rfl, hb1⟩; obtain ⟨hc1, hf1⟩ := bcell hb1.below)
      | (go_at_call 140; refine (or2_any _ _ (cmpI l l') (symsCmp xs ys) _ ?_ ?_ ?_ ?_ ?_ ?_).mono ?_; exact cmpI_range _ _; exact symsCmp_range _ _; omega; omega; exact World.cell?_alloc_new _ _ _ _; exact World.cell?_alloc_new _ _ _ _; rintro e w' ⟨rfl, rfl⟩))
  all_goals
    clear hc1 hf1
    go_wp2
    go_ret
    exact ⟨ret_int rfl, ((((Gr.refl _).alloc _).alloc _).drew.trans hb1).alloc _⟩
set_option maxRecDepth 100000 in
set_option maxHeartbeats 1000000 in
theorem sorted1Gr (t n s : Int) (rs : List Rule) (A : Option Addr) (c G : Nat) (Sr : Nat → Prop) (w : World) (x y : Nat) (hx : x < rs.length) (hy : y < rs.length) (hG : SrtG t n s rs A c G Sr w) :
    Calls Tryd.prog 107 #[.int .i64 x, .int .i64 y, .pointer (some ⟨G, 0, none⟩)] w fun e w' => e = .returned (.int .i64 (ruleCmp (ruleAt rs x) (ruleAt rs y))) ∧ Gr w w' := by
  obtain ⟨p, hp⟩ := get_some hx
  obtain ⟨q, hq⟩ := get_some hy
  rw [ruleAt_get hp, ruleAt_get hq]
  obtain ⟨bx, ox, Ax, cx, eA, hSx, hbx, hxi, hx1, hx2, hEx, p0, p1⟩ := hG.els.rule hp
  subst eA
  obtain ⟨by_, oy, Ay, cy, eA, hSy, hby, hyi, hy1, hy2, hEy, q0, q1⟩ := hG.els.rule hq
  injection eA with eA
  injection eA with e1 e2 _
  subst e1; subst e2
  obtain ⟨pl, pr⟩ := p
  obtain ⟨ql, qr⟩ := q
  dsimp only at *
  have g3 : w.cell? ⟨G, 3, none⟩ = some (.slice (some ⟨bx, ox, none⟩) rs.length c) := hG.gram.cell 3
  have h0 : (0 : Int) ≤ (x : Int) := by omega
  have h1 : (x : Int) < (rs.length : Int) := by omega
  have h2 : (0 : Int) ≤ (y : Int) := by omega
  have h3 : (y : Int) < (rs.length : Int) := by omega
  have HEx := Lib.hid hEx
  have HEy := Lib.hid hEy
  have Hl := Lib.hid (And.intro hx1 (And.intro hx2 (And.intro hy1 hy2)))
  clear hp hq hG hEx hEy hSx hSy hxi hyi hx1 hx2 hy1 hy2
  go_enter Tryd.func107, Tryd.ntmps107
  go_wp2_with fail
  go_still_tail 10, (by kernel_rfl)
  change wpList _ _ _ _ _ w.drew
  go_wp2_with fail
  refine (compare_Gr pl ql Ax Ay cx cy pr qr Sr _ (by have := Hl.out; omega) (by have := Hl.out; omega) (HEx.out.below (below_drew' w)) (HEy.out.below (below_drew' w))).mono ?_
  rintro e w1 ⟨rfl, hb1⟩
  go_wp2_with fail
  go_ret
  exact ⟨rfl, hb1.undrew⟩

end Go.Proofs.YtaidadjekfcacaaDoor
