/- Contract: slices.Reverse at symbols, for a row that lies in a block. -/
import Derived.Test.YtaidadjekfcacaaDoorQp1
import Derived.StillTailTactics
import Derived.IntWalk
import Derived.BigRegion
namespace Go.Proofs.YtaidadjekfcacaaDoor
open Go.RowKit
set_option linter.unusedVariables false

/-- A row of symbols at an offset of a block. -/
def RowS (w : World) (b o : Nat) (xs : List Sym) : Prop := ∃ t cur, Blk' w b t cur ∧ ∀ (i : Nat) (x : Sym), xs[i]? = some x → cur[o + i * 2]? = some (.bool x.term) ∧ cur[o + i * 2 + 1]? = some (.int .i64 x.n) ∧ I64 x.n
section
variable {w w' : World} {b o : Nat} {xs : List Sym}
theorem RowS.cells (h : RowS w b o xs) {i : Nat} {x : Sym} (hx : xs[i]? = some x) : w.cell? ⟨b, o + i * 2, none⟩ = some (.bool x.term) ∧ w.cell? ⟨b, o + i * 2 + 1, none⟩ = some (.int .i64 x.n) ∧ I64 x.n := by
  obtain ⟨t, cur, hb, hc⟩ := h
  obtain ⟨h1, h2, h3⟩ := hc i x hx
  exact ⟨by rw [hb.cell]; exact h1, by rw [hb.cell]; exact h2, h3⟩
theorem RowS.frozen (h : RowS w b o xs) (i : Nat) : w.frozen? ⟨b, i, none⟩ = false := by
  obtain ⟨t, cur, hb, _⟩ := h
  exact hb.frozen i
theorem RowS.lt (h : RowS w b o xs) : b < w.heap.size := by
  obtain ⟨t, cur, hb, _⟩ := h
  exact hb.lt
theorem RowS.drew (h : RowS w b o xs) : RowS w.drew b o xs := h
theorem RowS.undrew (h : RowS w.drew b o xs) : RowS w b o xs := h
theorem RowS.kept {X : Nat → Prop} (h : RowS w b o xs) (k : Kept X w w') (hx : ¬ X b) : RowS w' b o xs := by
  obtain ⟨t, cur, hb, hc⟩ := h
  exact ⟨t, cur, hb.kept k hx, hc⟩
theorem RowS.put (h : RowS w b o xs) {j : Nat} (hj : j < xs.length) (s : Sym) (hs : I64 s.n) : RowS ((w.setCell ⟨b, o + j * 2, none⟩ (.bool s.term)).setCell ⟨b, o + j * 2 + 1, none⟩ (.int .i64 s.n)) b o (xs.set j s) := by
  obtain ⟨t, cur, hb, hc⟩ := h
  refine ⟨t, _, (hb.set_ (o + j * 2) (.bool s.term)).set_ (o + j * 2 + 1) (.int .i64 s.n), fun i x hx => ?_⟩
  obtain ⟨d0, d1, _⟩ := hc j _ (List.getElem?_eq_getElem hj)
  have e0 := (Array.getElem?_eq_some_iff.1 d0).1
  have e1 := (Array.getElem?_eq_some_iff.1 d1).1
  rw [List.getElem?_set] at hx
  split at hx
  · rename_i e
    subst e
    first | rw [if_pos hj] at hx | skip
    injection hx with hx
    subst hx
    refine ⟨?_, ?_, hs⟩
    · rw [Array.getElem?_setIfInBounds_ne (by omega), Array.getElem?_setIfInBounds_self_of_lt e0]
    · rw [Array.getElem?_setIfInBounds_self_of_lt (by simpa using e1)]
  · rename_i e
    obtain ⟨h1, h2, h3⟩ := hc i x hx
    refine ⟨?_, ?_, h3⟩
    · rw [Array.getElem?_setIfInBounds_ne (by omega), Array.getElem?_setIfInBounds_ne (by omega)]; exact h1
    · rw [Array.getElem?_setIfInBounds_ne (by omega), Array.getElem?_setIfInBounds_ne (by omega)]; exact h2
theorem RowS.els {S : Nat → Prop} (h : RowS w b o xs) (hS : S b) : Els w S xs (some ⟨b, o, none⟩) := fun _ => ⟨b, o, rfl, hS, fun i x hi => by
  obtain ⟨h1, h2, h3⟩ := h.cells hi
  refine ⟨[.bool x.term, .int .i64 x.n], ⟨rfl, h3⟩, fun j u hu => ?_⟩
  match j, hu with
  | 0, hu => simp at hu; subst hu; exact h1
  | 1, hu => simp at hu; subst hu; exact h2⟩
theorem RowS.of {S : Nat → Prop} {t : TypeId} {cur : Array Value} (h : Els w S xs (some ⟨b, o, none⟩)) (hb : Blk' w b t cur) : RowS w b o xs := ⟨t, cur, hb, fun i x hi => by
  obtain ⟨b1, o1, e, _, _, h1, h2, h3⟩ := h.sym hi
  injection e with e
  injection e with e1 e2 _
  subst e1; subst e2
  rw [hb.cell] at h2 h3
  exact ⟨h2, h3, h1⟩⟩
end

/-- k symbols from each end are turned. -/
def RvS (l : List Sym) (k : Nat) (m : List Sym) : Prop := m.length = l.length ∧ ∀ i, m[i]? = if i < k ∨ l.length ≤ i + k then l.reverse[i]? else l[i]?
theorem RvS.zero (l : List Sym) : RvS l 0 l := ⟨rfl, fun i => by
  split
  · rename_i h
    rw [List.getElem?_eq_none (by omega), List.getElem?_eq_none (by rw [List.length_reverse]; omega)]
  · rfl⟩
theorem rev_at {l : List Sym} {i : Nat} (h : i < l.length) : l.reverse[i]? = l[l.length - 1 - i]? := List.getElem?_reverse h
theorem RvS.step {l m : List Sym} {k j : Nat} {x y : Sym} (h : RvS l k m) (hkj : k < j) (hj : j + k + 1 = l.length) (hx : m[k]? = some x) (hy : m[j]? = some y) : RvS l (k + 1) ((m.set k y).set j x) := by
  obtain ⟨h1, h2⟩ := h
  refine ⟨by simp [h1], fun i => ?_⟩
  have hx2 := h2 k
  rw [hx, if_neg (by omega)] at hx2
  have hy2 := h2 j
  rw [hy, if_neg (by omega)] at hy2
  rw [List.getElem?_set]
  split
  · rename_i e
    subst e
    rw [if_pos (by simp; omega), if_pos (by omega), rev_at (by omega), show l.length - 1 - j = k by omega, ← hx2]
  · rename_i e
    rw [List.getElem?_set]
    split
    · rename_i e2
      subst e2
      rw [if_pos (by omega), if_pos (by omega), rev_at (by omega), show l.length - 1 - k = j by omega, ← hy2]
    · rename_i e2
      rw [h2 i]
      by_cases c : i < k ∨ l.length ≤ i + k
      · rw [if_pos c, if_pos (by omega)]
      · rw [if_neg c, if_neg (by omega)]
theorem RvS.done {l m : List Sym} {k : Nat} (h : RvS l k m) (hk : l.length ≤ 2 * k + 1) : m = l.reverse := by
  refine List.ext_getElem? fun i => ?_
  rw [h.2 i]
  split
  · rfl
  · rename_i c
    rw [rev_at (by omega), show l.length - 1 - i = i by omega]
def RvL (l : List Sym) (b o : Nat) (w : World) (i j : Value) (wr : World) : Prop :=
  ∃ (k : Nat) (jv : Int) (m : List Sym), 2 * k ≤ l.length ∧ jv = (l.length : Int) - 1 - (k : Int) ∧ i = .int .i64 k ∧ j = .int .i64 jv ∧ RvS l k m ∧ RowS wr b o m ∧ Kept (fun x => x = b) w wr

set_option maxRecDepth 100000 in
set_option maxHeartbeats 2000000 in
theorem revSym_any (l : List Sym) (b o c : Nat) (w : World) (hl : l.length ≤ 1000000) (hR : RowS w b o l) :
    Calls Tryd.prog 28 #[.slice (some ⟨b, o, none⟩) l.length c] w fun e w' => e = .returned (.tuple #[]) ∧ RowS w' b o l.reverse ∧ Kept (fun x => x = b) w w' := by
  have HR := Lib.hid hR
  have hw0 : IntKind.i64.wrap ((l.length : Int) - 1) = (l.length : Int) - 1 := IntWalk.i64_in _ (by omega)
  clear hR
  go_enter Tryd.func28, Tryd.ntmps28
  go_wp2_with fail
  clear hw0
  go_loopw [2, 3] (fun i j wr => RvL l b o w i j wr) (fun i _ _ => l.length - (intOf i).toNat)
  case atStart => exact ⟨0, _, l, by omega, by omega, rfl, rfl, RvS.zero l, HR.out, Kept.refl _ _⟩
  case round =>
    obtain ⟨wo, hwo⟩ : ∃ wo : World, wo = wr := ⟨_, rfl⟩
    subst hwo
    obtain ⟨k, jv, m, hk, hjv, rfl, rfl, hrv, hrow, hkp⟩ := hrel
    have HRv := Lib.hid hrv
    have HRo := Lib.hid hrow
    have HK := Lib.hid hkp
    have HJ := Lib.hid hjv
    clear hrv hrow hkp
    by_cases hlt : (k : Int) < jv
    · obtain ⟨j, rfl⟩ : ∃ j : Nat, jv = (j : Int) := ⟨jv.toNat, by omega⟩
      have hkj : k < j := by omega
      have hjl : j + k + 1 = l.length := by omega
      have hml := HRv.out.1
      obtain ⟨x, hx⟩ := get_some (xs := m) (k := k) (by omega)
      obtain ⟨y, hy⟩ := get_some (xs := m) (k := j) (by omega)
      obtain ⟨x0, x1, x2⟩ := HRo.out.cells hx
      obtain ⟨y0, y1, y2⟩ := HRo.out.cells hy
      obtain ⟨xt, xn⟩ := x
      obtain ⟨yt, yn⟩ := y
      dsimp only at x0 x1 x2 y0 y1 y2
      have f0 := HRo.out.frozen (o + k * 2)
      have f1 := HRo.out.frozen (o + k * 2 + 1)
      have f2 := HRo.out.frozen (o + j * 2)
      have f3 := HRo.out.frozen (o + j * 2 + 1)
      have zb := HRo.out.lt
      have k0 : (0 : Int) ≤ (k : Int) := by omega
      have k1 : (k : Int) < (l.length : Int) := by omega
      have j0 : (0 : Int) ≤ (j : Int) := by omega
      have j1 : (j : Int) < (l.length : Int) := by omega
      have hw1 : IntKind.i64.wrap ((k : Int) + 1) = (k : Int) + 1 := IntWalk.i64_in _ (by omega)
      have hw2 : IntKind.i64.wrap ((j : Int) - 1) = (j : Int) - 1 := IntWalk.i64_in _ (by omega)
      have HN := Lib.hid (HRv.out.step hkj hjl hx hy)
      have HP := Lib.hid (And.intro x2 y2)
      have HL := Lib.hid (And.intro hkj (And.intro hjl hml))
      clear hx hy x2 y2 hjv hjl hml
      go_wp2_with fail
      go_region
      all_goals
        go_wp2_with fail
        go_roundw
        case rel =>
          obtain ⟨q1, q2, q3⟩ := HL.out
          refine ⟨k + 1, _, _, by omega, ?_, by go_num, rfl, HN.out, ((HRo.out.put (j := k) (by omega) ⟨yt, yn⟩ HP.out.2).put (j := j) (by simp; omega) ⟨xt, xn⟩ HP.out.1), ((((HK.out.setCell (p := ⟨b, o + k * 2, none⟩) (.inl rfl) _).setCell (p := ⟨b, o + k * 2 + 1, none⟩) (.inl rfl) _).setCell (p := ⟨b, o + j * 2, none⟩) (.inl rfl) _).setCell (p := ⟨b, o + j * 2 + 1, none⟩) (.inl rfl) _).drew⟩
          omega
        case measure => simp [intOf]; omega
    · have HD := Lib.hid (HRv.out.done (by omega))
      clear hjv
      go_wp2_with fail
      go_end0
      exact ⟨rfl, HD.out ▸ HRo.out, HK.out⟩

set_option maxRecDepth 100000 in
theorem revNil_any (A : Option Addr) (c : Nat) (w : World) :
    Calls Tryd.prog 28 #[.slice A 0 c] w fun e w' => e = .returned (.tuple #[]) ∧ Below w.heap.size w w' := by
  have hw0 : IntKind.i64.wrap (-1 : Int) = -1 := IntWalk.i64_in _ (by omega)
  go_enter Tryd.func28, Tryd.ntmps28
  go_wp2_with fail
  go_loopw [2, 3] (fun i j wr => i = .int .i64 0 ∧ j = .int .i64 (-1) ∧ wr = w) (fun i _ _ => 0)
  case atStart => exact ⟨rfl, rfl, rfl⟩
  case round =>
    obtain ⟨rfl, rfl, rfl⟩ := hrel
    go_wp2_with fail
    go_end0
    exact ⟨rfl, Below.refl _ _⟩
end Go.Proofs.YtaidadjekfcacaaDoor
