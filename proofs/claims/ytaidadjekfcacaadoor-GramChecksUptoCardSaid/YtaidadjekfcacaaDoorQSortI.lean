/- Contracts: slices.SortFunc at gram.Sorted's closure, for few numbers. -/
import Derived.Test.YtaidadjekfcacaaDoorQSortP
import Derived.Test.YtaidadjekfcacaaDoorQp1
import Derived.StillTailTactics
import Derived.IntWalk
import Derived.BigRegion
namespace Go.Proofs.YtaidadjekfcacaaDoor
open Go.RowKit
set_option linter.unusedVariables false

/-- A row of numbers at the head of a block. -/
def RowI (w : World) (g : Nat) (xs : List Int) : Prop := ∃ cur, Blk' w g 3 cur ∧ ∀ (i : Nat) (x : Int), xs[i]? = some x → cur[i]? = some (.int .i64 x)
theorem RowI.cell {w : World} {g : Nat} {xs : List Int} (h : RowI w g xs) {i : Nat} {x : Int} (hx : xs[i]? = some x) : w.cell? ⟨g, i, none⟩ = some (.int .i64 x) := by
  obtain ⟨cur, hb, hc⟩ := h
  rw [hb.cell]; exact hc i x hx
theorem RowI.frozen {w : World} {g : Nat} {xs : List Int} (h : RowI w g xs) (i : Nat) : w.frozen? ⟨g, i, none⟩ = false := by
  obtain ⟨cur, hb, _⟩ := h
  exact hb.frozen i
theorem RowI.lt {w : World} {g : Nat} {xs : List Int} (h : RowI w g xs) : g < w.heap.size := by
  obtain ⟨cur, hb, _⟩ := h
  exact hb.lt
theorem RowI.set_ {w : World} {g : Nat} {xs : List Int} (h : RowI w g xs) (i : Nat) (v : Int) : RowI (w.setCell ⟨g, i, none⟩ (.int .i64 v)) g (xs.set i v) := by
  obtain ⟨cur, hb, hc⟩ := h
  refine ⟨_, hb.set_ i _, fun j x hx => ?_⟩
  by_cases e : i = j
  · subst e
    have hl : i < xs.length := by have := (List.getElem?_eq_some_iff.1 hx).1; simpa using this
    rw [List.getElem?_set_self hl] at hx
    injection hx with hx
    subst hx
    have h2 := hc i xs[i] (List.getElem?_eq_getElem hl)
    have h3 := (Array.getElem?_eq_some_iff.1 h2).1
    simp [Array.getElem?_setIfInBounds, h3]
  · rw [List.getElem?_set_ne e] at hx
    simp [Array.getElem?_setIfInBounds, e, hc j x hx]
theorem RowI.kept {w w' : World} {X : Nat → Prop} {g : Nat} {xs : List Int} (h : RowI w g xs) (k : Kept X w w') (hx : ¬ X g) : RowI w' g xs := by
  obtain ⟨cur, hb, hc⟩ := h
  exact ⟨cur, hb.kept k hx, hc⟩
theorem RowI.below {w w' : World} {g : Nat} {xs : List Int} (h : RowI w g xs) (k : Below w.heap.size w w') : RowI w' g xs := by
  obtain ⟨cur, hb, hc⟩ := h
  exact ⟨cur, hb.below k hb.lt, hc⟩
theorem RowI.els {w : World} {S : Nat → Prop} {g : Nat} {xs : List Int} (h : RowI w g xs) (hi : ∀ v ∈ xs, I64 v) (hS : S g) : Els w S xs (some ⟨g, 0, none⟩) := by
  intro _
  refine ⟨g, 0, rfl, hS, fun i x hx => ⟨[.int .i64 x], ⟨rfl, hi x (List.mem_of_getElem? hx)⟩, fun j u hu => ?_⟩⟩
  match j with
  | 0 =>
    simp at hu; subst hu
    have := h.cell hx
    rw [show 0 + i * Dat.size Int + 0 = i from by show 0 + i * 1 + 0 = i; omega]
    exact this
  | j + 1 => simp at hu
theorem Own.rowI {w : World} {S : Nat → Prop} {base : Nat} {v : Value} {xs : List Int} (h : Own w S base 3 v xs) (hne : xs ≠ []) : ∃ g c, v = .slice (some ⟨g, 0, none⟩) xs.length c ∧ xs.length ≤ c ∧ c ≤ 9223372036854775807 ∧ base ≤ g ∧ RowI w g xs := by
  obtain ⟨css, h1, h2, h3⟩ := h
  rcases h1.2 with ⟨rfl, hn⟩ | ⟨g, cap, cur, rfl, hg, hh, hnc, hcm, _⟩
  · exact absurd (List.eq_nil_of_length_eq_zero hn) hne
  · refine ⟨g, cap, rfl, hnc, by simpa [maxLen] using hcm, hg, cur, hh, fun i x hx => ?_⟩
    have hil : i < css.length := by have := (List.getElem?_eq_some_iff.1 hx).1; omega
    have hci : css[i]? = some css[i] := List.getElem?_eq_getElem hil
    have hcl : ∀ cs ∈ css, cs.length = Dat.size Int := by
      intro cs hcs
      obtain ⟨k, hk, rfl⟩ := List.getElem_of_mem hcs
      exact Dat.len (h3 k _ _ (List.getElem?_eq_getElem (by omega)) (List.getElem?_eq_getElem hk))
    have hrd := h3 i x _ hx hci
    have hf := flat_get css hcl i 0 css[i] (.int .i64 x) hci (by rw [hrd.1]; rfl)
    have hc := h1.cells (g := g) rfl _ _ hf
    have hc2 : w.cell? ⟨g, i, none⟩ = some (.int .i64 x) := by
      have hadd : (⟨g, 0, none⟩ : Addr).add (i * Dat.size Int + 0) = ⟨g, i, none⟩ := by
        rw [show i * Dat.size Int + 0 = i from by show i * 1 + 0 = i; omega]
        unfold Addr.add
        split
        · rename_i h0; simp only [h0]
        · simp only [Nat.zero_add]
      rw [← hadd]; exact hc
    have hb : Blk' w g 3 cur := hh
    rw [hb.cell] at hc2
    exact hc2

/-- The grammar whose rules are compared. -/
structure SrtG (t n s : Int) (rs : List Rule) (A : Option Addr) (c G : Nat) (Sr : Nat → Prop) (w : World) : Prop where
  gram : Blk' w G 25 #[.int .i64 t, .int .i64 n, .int .i64 s, .slice A rs.length c]
  els : Els w Sr rs A
theorem SrtG.kept {t n s : Int} {rs : List Rule} {A : Option Addr} {c G : Nat} {Sr X : Nat → Prop} {w w' : World} (h : SrtG t n s rs A c G Sr w) (k : Kept X w w') (hG : ¬ X G) (hS : ∀ b, Sr b → ¬ X b) : SrtG t n s rs A c G Sr w' := ⟨h.gram.kept k hG, h.els.kept k hS⟩
theorem below_drew' (w : World) : Below w.heap.size w w.drew := (Below.refl _ _).drew
def ruleAt (rs : List Rule) (x : Int) : Rule := rs.getD x.toNat ⟨0, []⟩
def ltAt (rs : List Rule) (x y : Int) : Bool := ltRule (ruleAt rs x) (ruleAt rs y)
theorem ruleAt_get {rs : List Rule} {k : Nat} {q : Rule} (h : rs[k]? = some q) : ruleAt rs (k : Int) = q := by unfold ruleAt; rw [Int.toNat_natCast, List.getD_eq_getElem?_getD, h]; rfl

set_option maxRecDepth 100000 in
set_option maxHeartbeats 1000000 in
theorem sorted1_any (t n s : Int) (rs : List Rule) (A : Option Addr) (c G : Nat) (Sr : Nat → Prop) (w : World) (x y : Nat) (hx : x < rs.length) (hy : y < rs.length) (hG : SrtG t n s rs A c G Sr w) :
    Calls Tryd.prog 107 #[.int .i64 x, .int .i64 y, .pointer (some ⟨G, 0, none⟩)] w fun e w' => e = .returned (.int .i64 (ruleCmp (ruleAt rs x) (ruleAt rs y))) ∧ Below w.heap.size w w' := by
  obtain ⟨p, hp⟩ := get_some hx
  obtain ⟨q, hq⟩ := get_some hy
  rw [ruleAt_get hp, ruleAt_get hq]
  obtain ⟨bx, ox, Ax, cx, eA, hSx, hbx, hxi, hx1, hx2, hEx, p0, p1⟩ := hG.els.rule hp
  subst eA
  obtain ⟨by_, oy, Ay, cy, eA, hSy, hby, hyi, hy1, hy2, hEy, q0, q1⟩ := hG.els.rule hq
  injection eA with eA
  injection eA with e1 e2 _
  subst e1; subst e2
  obtain ⟨pl, pr⟩ := p
  obtain ⟨ql, qr⟩ := q
  dsimp only at *
  have g3 : w.cell? ⟨G, 3, none⟩ = some (.slice (some ⟨bx, ox, none⟩) rs.length c) := hG.gram.cell 3
  have h0 : (0 : Int) ≤ (x : Int) := by omega
  have h1 : (x : Int) < (rs.length : Int) := by omega
  have h2 : (0 : Int) ≤ (y : Int) := by omega
  have h3 : (y : Int) < (rs.length : Int) := by omega
  have HEx := Lib.hid hEx
  have HEy := Lib.hid hEy
  have Hl := Lib.hid (And.intro hx1 (And.intro hx2 (And.intro hy1 hy2)))
  clear hp hq hG hEx hEy hSx hSy hxi hyi hx1 hx2 hy1 hy2
  go_enter Tryd.func107, Tryd.ntmps107
  go_wp2_with fail
  go_still_tail 10, (by kernel_rfl)
  change wpList _ _ _ _ _ w.drew
  go_wp2_with fail
  refine (compare_any pl ql Ax Ay cx cy pr qr Sr _ (by have := Hl.out; omega) (by have := Hl.out; omega) (HEx.out.below (below_drew' w)) (HEy.out.below (below_drew' w))).mono ?_
  rintro e w1 ⟨rfl, hb1⟩
  go_wp2_with fail
  go_ret
  exact ⟨rfl, bundrew hb1⟩

structure SrtOk (rs : List Rule) (xs : List Int) : Prop where
  range : ∀ v ∈ xs, ∃ k : Nat, v = (k : Int) ∧ k < rs.length
  nodup : xs.Nodup
  apart : rs.Nodup
theorem nodup_inj {α : Type} : ∀ (l : List α) (i j : Nat) (x : α), l.Nodup → l[i]? = some x → l[j]? = some x → i = j
  | [], i, _, _, _, h, _ => by simp at h
  | a :: l, 0, 0, x, _, _, _ => rfl
  | a :: l, 0, j + 1, x, hn, h1, h2 => by
    simp at h1 h2; subst h1
    exact absurd (List.mem_of_getElem? h2) (List.nodup_cons.1 hn).1
  | a :: l, i + 1, 0, x, hn, h1, h2 => by
    simp at h1 h2; subst h2
    exact absurd (List.mem_of_getElem? h1) (List.nodup_cons.1 hn).1
  | a :: l, i + 1, j + 1, x, hn, h1, h2 => by
    rw [nodup_inj l i j x (List.nodup_cons.1 hn).2 (by simpa using h1) (by simpa using h2)]
theorem ltAt_total {rs : List Rule} {a b i j : Nat} (hr : rs.Nodup) (ha : a < rs.length) (hb : b < rs.length) (h : a ≠ b) (hn : ltAt rs (a : Int) (b : Int) = false) : ltAt rs (b : Int) (a : Int) = true := by
  unfold ltAt at *
  have e1 : rs[a]? = some rs[a] := List.getElem?_eq_getElem ha
  have e2 : rs[b]? = some rs[b] := List.getElem?_eq_getElem hb
  rw [ruleAt_get e1, ruleAt_get e2] at *
  have hne : rs[a] ≠ rs[b] := fun e => h (nodup_inj rs a b rs[a] hr e1 (by rw [e2, e]))
  rcases ltRule_total hne with h1 | h1
  · rw [hn] at h1; simp at h1
  · exact h1
theorem sw_kept {w : World} {g i j : Nat} {u v : Value} : Kept (fun b => b = g) w ((w.setCell ⟨g, i, none⟩ u).setCell ⟨g, j, none⟩ v) := ((Kept.refl (fun b => b = g) w).setCell (p := ⟨g, i, none⟩) (.inl rfl) _).setCell (p := ⟨g, j, none⟩) (.inl rfl) _

set_option maxRecDepth 100000 in
set_option maxHeartbeats 4000000 in
theorem insSort_any (t n s : Int) (rs : List Rule) (A : Option Addr) (c G : Nat) (Sr : Nat → Prop) (w : World) (xs : List Int) (g cap : Nat) (h1 : 1 ≤ xs.length) (h12 : xs.length ≤ 12) (hok : SrtOk rs xs) (hG : SrtG t n s rs A c G Sr w) (hR : RowI w g xs) (hgG : G ≠ g) (hgS : ∀ b, Sr b → b ≠ g) :
    Calls Tryd.prog 170 #[.slice (some ⟨g, 0, none⟩) xs.length cap, .int .i64 0, .int .i64 xs.length, .func (.func 107) #[] #[.pointer (some ⟨G, 0, none⟩)]] w fun e w' => e = .returned (.tuple #[]) ∧ ∃ ys : List Int, RowI w' g ys ∧ ys.Perm xs ∧ SortedTo (ltAt rs) ys (xs.length - 1) ∧ Kept (fun b => b = g) w w' := by
  have HG := Lib.hid hG
  have HR := Lib.hid hR
  have HOk := Lib.hid hok
  have HgS := Lib.hid hgS
  have hN : (xs.length : Int) ≤ 12 := by omega
  clear hG hR hok hgS
  go_enter Tryd.func170, Tryd.ntmps170
  go_wp2_with fail
  go_loopw [8] (fun v wr => ∃ (i : Nat) (ys : List Int), 1 ≤ i ∧ i ≤ xs.length ∧ v = .int .i64 i ∧ RowI wr g ys ∧ ys.Perm xs ∧ SortedTo (ltAt rs) ys (i - 1) ∧ Kept (fun b => b = g) w wr) (fun v _ => xs.length - (intOf v).toNat)
  case atStart => exact ⟨1, xs, Nat.le_refl _, h1, rfl, HR.out, List.Perm.refl _, fun p q a b hpq hq => by omega, Kept.refl _ _⟩
  case round =>
    obtain ⟨wo, hwo⟩ : ∃ wo : World, wo = wr := ⟨_, rfl⟩
    subst hwo
    obtain ⟨i, ys, hi1, hin, rfl, hRo, hPo, hSo, hKo⟩ := hrel
    have HO := Lib.hid (And.intro hRo (And.intro hPo (And.intro hSo hKo)))
    clear hRo hPo hSo hKo
    by_cases hlt : i < xs.length
    · have hlt' : (i : Int) < (xs.length : Int) := by omega
      go_wp2_with fail
      go_loopw [9] (fun v wr => ∃ (j : Nat) (zs : List Int), j ≤ i ∧ v = .int .i64 j ∧ RowI wr g zs ∧ zs.Perm xs ∧ InsTo (ltAt rs) zs i j ∧ Kept (fun b => b = g) w wr) (fun v _ => (intOf v).toNat)
      case atStart => exact ⟨i, ys, Nat.le_refl _, rfl, HO.out.1, HO.out.2.1, by
        have h := HO.out.2.2.1.ins
        rw [show i - 1 + 1 = i by omega] at h
        exact h, HO.out.2.2.2⟩
      case round =>
        obtain ⟨wp, hwp⟩ : ∃ wp : World, wp = wr := ⟨_, rfl⟩
        subst hwp
        obtain ⟨j, zs, hji, rfl, hRp, hPp, hIp, hKp⟩ := hrel
        have HP := Lib.hid (And.intro hRp (And.intro hPp (And.intro hIp hKp)))
        have hzl : zs.length = xs.length := hPp.length_eq
        have HT := Lib.hid (show ∀ a ∈ zs, ∀ b ∈ zs, ∀ c ∈ zs, ltAt rs a b = true → ltAt rs b c = true → ltAt rs a c = true from fun a _ b _ c _ h1 h2 => ltRule_trans h1 h2)
        clear hPp hIp hKp
        by_cases hj : j = 0
        · subst hj
          have HF := Lib.hid (show SortedTo (ltAt rs) zs i from HP.out.2.2.1.stop HT.out hji (fun a b h => by omega))
          clear hRp
          go_wp2_with fail
          refine wp_region_noPanic ?_
          refine wp_region_held_drew (S := (fun w' => True)) (by kernel_rfl) ?ha (fun hHeld => ?ba)
          case ha => trivial
          refine take_run (i := 0) (v := ?va0) rfl (by kernel_rfl) (by kernel_rfl) (by kernel_rfl) (fun _ _ _ h => h) (by rfl) ?ya0 (by assumption) ?ra0
          case ya0 => (intro w hSw; (try dsimp only at hSw); go_simp; try with_reducible rfl)
          try simp only [Act.put, List.setIfInBounds_toArray, List.set_cons_zero, List.set_cons_succ]
          refine take_run (i := 1) (v := ?va1) rfl (by kernel_rfl) (by kernel_rfl) (by kernel_rfl) (fun _ _ _ h => h) (by rfl) ?ya1 (by assumption) ?ra1
          case ya1 => (intro w hSw; (try dsimp only at hSw); go_simp; try with_reducible rfl)
          try simp only [Act.put, List.setIfInBounds_toArray, List.set_cons_zero, List.set_cons_succ]
          refine take_run (i := 2) (v := .bool false) rfl (by kernel_rfl) (by kernel_rfl) (by kernel_rfl) (fun _ _ _ h => h) (by rfl) ?ya2 (by assumption) ?ra2
          case ya2 => (intro w hSw; (try dsimp only at hSw); try go_simp; first | done | omega | (simp []; done) | trace_state)
          try simp only [Act.put, List.setIfInBounds_toArray, List.set_cons_zero, List.set_cons_succ]
          refine take_run (i := 3) (v := ?va3) rfl (by kernel_rfl) (by kernel_rfl) (by kernel_rfl) (fun _ _ _ h => h) (by rfl) ?ya3 (by assumption) ?ra3
          case ya3 => (intro w hSw; (try dsimp only at hSw); go_simp; try with_reducible rfl)
          try simp only [Act.put, List.setIfInBounds_toArray, List.set_cons_zero, List.set_cons_succ]
          refine take_bar (i := 4) rfl (by kernel_rfl) (by kernel_rfl) (by kernel_rfl) (fun _ _ _ h => h) (by rfl) (by assumption) ?_
          try simp only [Act.put, List.setIfInBounds_toArray, List.set_cons_zero, List.set_cons_succ]
          refine take_bar (i := 5) rfl (by kernel_rfl) (by kernel_rfl) (by kernel_rfl) (fun _ _ _ h => h) (by rfl) (by assumption) ?_
          try simp only [Act.put, List.setIfInBounds_toArray, List.set_cons_zero, List.set_cons_succ]
          refine take_bar (i := 6) rfl (by kernel_rfl) (by kernel_rfl) (by kernel_rfl) (fun _ _ _ h => h) (by rfl) (by assumption) ?_
          try simp only [Act.put, List.setIfInBounds_toArray, List.set_cons_zero, List.set_cons_succ]
          refine take_bar (i := 7) rfl (by kernel_rfl) (by kernel_rfl) (by kernel_rfl) (fun _ _ _ h => h) (by rfl) (by assumption) ?_
          try simp only [Act.put, List.setIfInBounds_toArray, List.set_cons_zero, List.set_cons_succ]
          refine take_bar (i := 8) rfl (by kernel_rfl) (by kernel_rfl) (by kernel_rfl) (fun _ _ _ h => h) (by rfl) (by assumption) ?_
          try simp only [Act.put, List.setIfInBounds_toArray, List.set_cons_zero, List.set_cons_succ]
          refine take_bar (i := 9) rfl (by kernel_rfl) (by kernel_rfl) (by kernel_rfl) (fun _ _ _ h => h) (by rfl) (by assumption) ?_
          try simp only [Act.put, List.setIfInBounds_toArray, List.set_cons_zero, List.set_cons_succ]
          refine take_bar (i := 10) rfl (by kernel_rfl) (by kernel_rfl) (by kernel_rfl) (fun _ _ _ h => h) (by rfl) (by assumption) ?_
          try simp only [Act.put, List.setIfInBounds_toArray, List.set_cons_zero, List.set_cons_succ]
          refine take_bar (i := 11) rfl (by kernel_rfl) (by kernel_rfl) (by kernel_rfl) (fun _ _ _ h => h) (by rfl) (by assumption) ?_
          try simp only [Act.put, List.setIfInBounds_toArray, List.set_cons_zero, List.set_cons_succ]
          refine take_bar (i := 12) rfl (by kernel_rfl) (by kernel_rfl) (by kernel_rfl) (fun _ _ _ h => h) (by rfl) (by assumption) ?_
          try simp only [Act.put, List.setIfInBounds_toArray, List.set_cons_zero, List.set_cons_succ]
          refine take_bar (i := 13) rfl (by kernel_rfl) (by kernel_rfl) (by kernel_rfl) (fun _ _ _ h => h) (by rfl) (by assumption) ?_
          try simp only [Act.put, List.setIfInBounds_toArray, List.set_cons_zero, List.set_cons_succ]
          refine take_bar (i := 14) rfl (by kernel_rfl) (by kernel_rfl) (by kernel_rfl) (fun _ _ _ h => h) (by rfl) (by assumption) ?_
          try simp only [Act.put, List.setIfInBounds_toArray, List.set_cons_zero, List.set_cons_succ]
          refine take_bar (i := 15) rfl (by kernel_rfl) (by kernel_rfl) (by kernel_rfl) (fun _ _ _ h => h) (by rfl) (by assumption) ?_
          try simp only [Act.put, List.setIfInBounds_toArray, List.set_cons_zero, List.set_cons_succ]
          refine take_run (i := 16) (v := ?va16) rfl (by kernel_rfl) (by kernel_rfl) (by kernel_rfl) (fun _ _ _ h => h) (by rfl) ?ya16 (by assumption) ?ra16
          case ya16 => (intro w hSw; (try dsimp only at hSw); go_simp; try with_reducible rfl)
          try simp only [Act.put, List.setIfInBounds_toArray, List.set_cons_zero, List.set_cons_succ]
          refine wpAnyH_done (by kernel_rfl) ?_ _
          refine NoPanic.normal ?_
          go_wp2_with fail
          go_roundw
          case rel => exact ⟨i + 1, zs, by omega, hlt, by go_num, HP.out.1, HP.out.2.1, by rw [show i + 1 - 1 = i by omega]; exact HF.out, HP.out.2.2.2.drew⟩
          case measure => simp [intOf]; omega
        · obtain ⟨a, ha⟩ := get_some (show j < zs.length by omega)
          obtain ⟨b, hb⟩ := get_some (show j - 1 < zs.length by omega)
          obtain ⟨ka, rfl, hka⟩ := HOk.out.range a (HP.out.2.1.subset (List.mem_of_getElem? ha))
          obtain ⟨kb, rfl, hkb⟩ := HOk.out.range b (HP.out.2.1.subset (List.mem_of_getElem? hb))
          have ca : wp.cell? ⟨g, j, none⟩ = some (.int .i64 ka) := hRp.cell ha
          have cb : wp.cell? ⟨g, j - 1, none⟩ = some (.int .i64 kb) := hRp.cell hb
          have fa := hRp.frozen j
          have fb := hRp.frozen (j - 1)
          have hjw : IntKind.i64.wrap ((j : Int) - 1) = (j : Int) - 1 := IntWalk.i64_in _ (by omega)
          have hj0 : (0 : Int) ≤ (j : Int) := by omega
          have hj1 : (j : Int) < (xs.length : Int) := by omega
          have hj2 : (0 : Int) ≤ (j : Int) - 1 := by omega
          have hj3 : (j : Int) - 1 < (xs.length : Int) := by omega
          have hj4 : ((j : Int) - 1).toNat = j - 1 := by omega
          have hj5 : (0 : Int) < (j : Int) := by omega
          have hj6 : (1 : Int) ≤ (j : Int) := by omega
          have hd1 : decide ((0 : Int) < (j : Int)) = true := by simp; omega
          have zg : g < wp.heap.size := hRp.lt
          have hne : ka ≠ kb := fun e => by
            have hnd := (HP.out.2.1.nodup_iff).2 HOk.out.nodup
            subst e
            have := nodup_inj zs j (j - 1) _ hnd ha hb
            omega
          have HA := Lib.hid (And.intro ha hb)
          have HC := Lib.hid (sorted1_any t n s rs A c G Sr wp.drew ka kb hka hkb ((HG.out.kept HP.out.2.2.2.drew (fun e => hgG e) (fun b hb e => HgS.out b hb e))))
          clear ha hb hRp
          by_cases hl : ltAt rs (ka : Int) (kb : Int) = true
          · have hc1 : ruleCmp (ruleAt rs ka) (ruleAt rs kb) < 0 := by unfold ltAt ltRule at hl; simpa using hl
            have HI := Lib.hid (And.intro (HP.out.2.2.1.swap (by omega) hji HA.out.1 HA.out.2 hl) (swap_perm (by omega) HA.out.1 HA.out.2))
            have HL := Lib.hid hl
            clear hl
            go_wp2_with fail
            refine wp_region_noPanic ?_
            refine wp_region_held_drew (S := (fun w' => w'.cell? ⟨g, j, none⟩ = some (.int .i64 ka) ∧ w'.cell? ⟨g, j - 1, none⟩ = some (.int .i64 kb))) (by kernel_rfl) ?hb (fun hHeld => ?bb)
            case hb => ((try dsimp only); go_keep)
            refine take_run (i := 0) (v := ?vb0) rfl (by kernel_rfl) (by kernel_rfl) (by kernel_rfl) (fun _ _ _ h => h) (by rfl) ?yb0 (by assumption) ?rb0
            case yb0 => (intro w hSw; (try dsimp only at hSw); go_simp; try with_reducible rfl)
            try simp only [Act.put, List.setIfInBounds_toArray, List.set_cons_zero, List.set_cons_succ]
            refine take_run (i := 1) (v := ?vb1) rfl (by kernel_rfl) (by kernel_rfl) (by kernel_rfl) (fun _ _ _ h => h) (by rfl) ?yb1 (by assumption) ?rb1
            case yb1 => (intro w hSw; (try dsimp only at hSw); go_simp; try with_reducible rfl)
            try simp only [Act.put, List.setIfInBounds_toArray, List.set_cons_zero, List.set_cons_succ]
            refine take_run (i := 2) (v := .bool true) rfl (by kernel_rfl) (by kernel_rfl) (by kernel_rfl) (fun _ _ _ h => h) (by rfl) ?yb2 (by assumption) ?rb2
            case yb2 => (intro w hSw; (try dsimp only at hSw); try go_simp; first | done | omega | (simp [hd1]; done) | trace_state)
            try simp only [Act.put, List.setIfInBounds_toArray, List.set_cons_zero, List.set_cons_succ]
            refine take_run (i := 3) (v := ?vb3) rfl (by kernel_rfl) (by kernel_rfl) (by kernel_rfl) (fun _ _ _ h => h) (by rfl) ?yb3 (by assumption) ?rb3
            case yb3 => (intro w hSw; (try dsimp only at hSw); go_simp; try with_reducible rfl)
            try simp only [Act.put, List.setIfInBounds_toArray, List.set_cons_zero, List.set_cons_succ]
            refine take_run (i := 4) (v := ?vb4) rfl (by kernel_rfl) (by kernel_rfl) (by kernel_rfl) (fun _ _ _ h => h) (by rfl) ?yb4 (by assumption) ?rb4
            case yb4 => (intro w hSw; (try dsimp only at hSw); go_simp; try with_reducible rfl)
            try simp only [Act.put, List.setIfInBounds_toArray, List.set_cons_zero, List.set_cons_succ]
            refine take_run (i := 5) (v := ?vb5) rfl (by kernel_rfl) (by kernel_rfl) (by kernel_rfl) (fun _ _ _ h => h) (by rfl) ?yb5 (by assumption) ?rb5
            case yb5 => (intro w hSw; (try dsimp only at hSw); go_simp; try with_reducible rfl)
            try simp only [Act.put, List.setIfInBounds_toArray, List.set_cons_zero, List.set_cons_succ]
            refine take_run (i := 6) (v := ?vb6) rfl (by kernel_rfl) (by kernel_rfl) (by kernel_rfl) (fun _ _ _ h => h) (by rfl) ?yb6 (by assumption) ?rb6
            case yb6 => (intro w hSw; (try dsimp only at hSw); go_simp; try with_reducible rfl)
            try simp only [Act.put, List.setIfInBounds_toArray, List.set_cons_zero, List.set_cons_succ]
            refine take_run (i := 7) (v := ?vb7) rfl (by kernel_rfl) (by kernel_rfl) (by kernel_rfl) (fun _ _ _ h => h) (by rfl) ?yb7 (by assumption) ?rb7
            case yb7 => (intro w hSw; (try dsimp only at hSw); go_simp; try with_reducible rfl)
            try simp only [Act.put, List.setIfInBounds_toArray, List.set_cons_zero, List.set_cons_succ]
            refine take_run (i := 8) (v := ?vb8) rfl (by kernel_rfl) (by kernel_rfl) (by kernel_rfl) (fun _ _ _ h => h) (by rfl) ?yb8 (by assumption) ?rb8
            case yb8 => (intro w hSw; (try dsimp only at hSw); go_simp; try with_reducible rfl)
            try simp only [Act.put, List.setIfInBounds_toArray, List.set_cons_zero, List.set_cons_succ]
            refine take_run (i := 9) (v := ?vb9) rfl (by kernel_rfl) (by kernel_rfl) (by kernel_rfl) (fun _ _ _ h => h) (by rfl) ?yb9 (by assumption) ?rb9
            case yb9 => (intro w hSw; (try dsimp only at hSw); go_simp; try with_reducible rfl)
            try simp only [Act.put, List.setIfInBounds_toArray, List.set_cons_zero, List.set_cons_succ]
            refine take_run (i := 10) (v := ?vb10) rfl (by kernel_rfl) (by kernel_rfl) (by kernel_rfl) (fun _ _ _ h => h) (by rfl) ?yb10 (by assumption) ?rb10
            case yb10 => (intro w hSw; (try dsimp only at hSw); go_simp; try with_reducible rfl)
            try simp only [Act.put, List.setIfInBounds_toArray, List.set_cons_zero, List.set_cons_succ]
            refine take_run (i := 11) (v := ?vb11) rfl (by kernel_rfl) (by kernel_rfl) (by kernel_rfl) (fun _ _ _ h => h) (by rfl) ?yb11 (by assumption) ?rb11
            case yb11 => (intro w hSw; (try dsimp only at hSw); go_simp; try with_reducible rfl)
            try simp only [Act.put, List.setIfInBounds_toArray, List.set_cons_zero, List.set_cons_succ]
            refine take_run (i := 12) (v := ?vb12) rfl (by kernel_rfl) (by kernel_rfl) (by kernel_rfl) (fun _ _ _ h => h) (by rfl) ?yb12 (by assumption) ?rb12
            case yb12 => (intro w hSw; (try dsimp only at hSw); go_simp; try with_reducible rfl)
            try simp only [Act.put, List.setIfInBounds_toArray, List.set_cons_zero, List.set_cons_succ]
            refine take_run (i := 13) (v := ?vb13) rfl (by kernel_rfl) (by kernel_rfl) (by kernel_rfl) (fun _ _ _ h => h) (by rfl) ?yb13 (by assumption) ?rb13
            case yb13 => (intro w hSw; (try dsimp only at hSw); go_simp; try with_reducible rfl)
            try simp only [Act.put, List.setIfInBounds_toArray, List.set_cons_zero, List.set_cons_succ]
            refine take_call (i := 14) rfl (by kernel_rfl) (by rfl) (fun Kq hK => ?_)
            go_simp
            go_at_call 107
            refine HC.out.mono ?_
            rintro e w1 ⟨rfl, hb1⟩
            have HB1 := Lib.hid (bundrew hb1)
            have n0 := (HB1.out.cell (p := ⟨g, j, none⟩) zg).trans ca
            have n1 := (HB1.out.cell (p := ⟨g, j - 1, none⟩) zg).trans cb
            clear hb1
            refine hK.out _ _ ?hb14 (fun hHeld => ?rb14)
            case hb14 => ((try dsimp only); go_keep)
            clear hK Kq
            try simp only [Act.put, List.setIfInBounds_toArray, List.set_cons_zero, List.set_cons_succ]
            refine take_run (i := 15) (v := .bool true) rfl (by kernel_rfl) (by kernel_rfl) (by kernel_rfl) (fun _ _ _ h => h) (by rfl) ?yb15 (by assumption) ?rb15
            case yb15 => (intro w hSw; (try dsimp only at hSw); try go_simp; first | done | omega | (simp [hc1]; done) | trace_state)
            try simp only [Act.put, List.setIfInBounds_toArray, List.set_cons_zero, List.set_cons_succ]
            refine take_run (i := 16) (v := ?vb16) rfl (by kernel_rfl) (by kernel_rfl) (by kernel_rfl) (fun _ _ _ h => h) (by rfl) ?yb16 (by assumption) ?rb16
            case yb16 => (intro w hSw; (try dsimp only at hSw); go_simp; try with_reducible rfl)
            try simp only [Act.put, List.setIfInBounds_toArray, List.set_cons_zero, List.set_cons_succ]
            refine wpAnyH_done (by kernel_rfl) ?_ _
            refine NoPanic.normal ?_
            have hR1 := HP.out.1.below HB1.out
            have f0 := hR1.frozen j
            have f1 := hR1.frozen (j - 1)
            have zg1 : g < w1.heap.size := hR1.lt
            have hjj : ¬ j = j - 1 := by omega
            have hjj2 : ¬ j - 1 = j := by omega
            have HR1 := Lib.hid hR1
            clear hR1 fa fb ca cb
            go_wp2_with fail
            go_region
            go_wp2_with fail
            go_roundw
            case rel =>
              refine ⟨j - 1, (zs.set j (kb : Int)).set (j - 1) (ka : Int), by omega, by rw [show ((j - 1 : Nat) : Int) = (j : Int) - 1 by omega], (((HR1.out.set_ j (kb : Int)).set_ (j - 1) (ka : Int)).below ((Below.refl _ _).drew)), HI.out.2.trans HP.out.2.1, HI.out.1, ((HP.out.2.2.2.below HB1.out).trans sw_kept).drew⟩
            case measure => simp [intOf]; omega
          · have hc1 : ¬ ruleCmp (ruleAt rs ka) (ruleAt rs kb) < 0 := by unfold ltAt ltRule at hl; simpa using hl
            have HF := Lib.hid (show SortedTo (ltAt rs) zs i from HP.out.2.2.1.stop HT.out hji (fun x y h hx hy => by
              rw [HA.out.1] at hx
              rw [HA.out.2] at hy
              injection hx with hx
              injection hy with hy
              subst hx; subst hy
              exact ltAt_total (i := 0) (j := 0) HOk.out.apart hka hkb hne (by simpa using hl)))
            clear hl
            go_wp2_with fail
            refine wp_region_noPanic ?_
            refine wp_region_held_drew (S := (fun w' => w'.cell? ⟨g, j, none⟩ = some (.int .i64 ka) ∧ w'.cell? ⟨g, j - 1, none⟩ = some (.int .i64 kb))) (by kernel_rfl) ?hd (fun hHeld => ?bd)
            case hd => ((try dsimp only); go_keep)
            refine take_run (i := 0) (v := ?vd0) rfl (by kernel_rfl) (by kernel_rfl) (by kernel_rfl) (fun _ _ _ h => h) (by rfl) ?yd0 (by assumption) ?rd0
            case yd0 => (intro w hSw; (try dsimp only at hSw); go_simp; try with_reducible rfl)
            try simp only [Act.put, List.setIfInBounds_toArray, List.set_cons_zero, List.set_cons_succ]
            refine take_run (i := 1) (v := ?vd1) rfl (by kernel_rfl) (by kernel_rfl) (by kernel_rfl) (fun _ _ _ h => h) (by rfl) ?yd1 (by assumption) ?rd1
            case yd1 => (intro w hSw; (try dsimp only at hSw); go_simp; try with_reducible rfl)
            try simp only [Act.put, List.setIfInBounds_toArray, List.set_cons_zero, List.set_cons_succ]
            refine take_run (i := 2) (v := .bool true) rfl (by kernel_rfl) (by kernel_rfl) (by kernel_rfl) (fun _ _ _ h => h) (by rfl) ?yd2 (by assumption) ?rd2
            case yd2 => (intro w hSw; (try dsimp only at hSw); try go_simp; first | done | omega | (simp [hd1]; done) | trace_state)
            try simp only [Act.put, List.setIfInBounds_toArray, List.set_cons_zero, List.set_cons_succ]
            refine take_run (i := 3) (v := ?vd3) rfl (by kernel_rfl) (by kernel_rfl) (by kernel_rfl) (fun _ _ _ h => h) (by rfl) ?yd3 (by assumption) ?rd3
            case yd3 => (intro w hSw; (try dsimp only at hSw); go_simp; try with_reducible rfl)
            try simp only [Act.put, List.setIfInBounds_toArray, List.set_cons_zero, List.set_cons_succ]
            refine take_run (i := 4) (v := ?vd4) rfl (by kernel_rfl) (by kernel_rfl) (by kernel_rfl) (fun _ _ _ h => h) (by rfl) ?yd4 (by assumption) ?rd4
            case yd4 => (intro w hSw; (try dsimp only at hSw); go_simp; try with_reducible rfl)
            try simp only [Act.put, List.setIfInBounds_toArray, List.set_cons_zero, List.set_cons_succ]
            refine take_run (i := 5) (v := ?vd5) rfl (by kernel_rfl) (by kernel_rfl) (by kernel_rfl) (fun _ _ _ h => h) (by rfl) ?yd5 (by assumption) ?rd5
            case yd5 => (intro w hSw; (try dsimp only at hSw); go_simp; try with_reducible rfl)
            try simp only [Act.put, List.setIfInBounds_toArray, List.set_cons_zero, List.set_cons_succ]
            refine take_run (i := 6) (v := ?vd6) rfl (by kernel_rfl) (by kernel_rfl) (by kernel_rfl) (fun _ _ _ h => h) (by rfl) ?yd6 (by assumption) ?rd6
            case yd6 => (intro w hSw; (try dsimp only at hSw); go_simp; try with_reducible rfl)
            try simp only [Act.put, List.setIfInBounds_toArray, List.set_cons_zero, List.set_cons_succ]
            refine take_run (i := 7) (v := ?vd7) rfl (by kernel_rfl) (by kernel_rfl) (by kernel_rfl) (fun _ _ _ h => h) (by rfl) ?yd7 (by assumption) ?rd7
            case yd7 => (intro w hSw; (try dsimp only at hSw); go_simp; try with_reducible rfl)
            try simp only [Act.put, List.setIfInBounds_toArray, List.set_cons_zero, List.set_cons_succ]
            refine take_run (i := 8) (v := ?vd8) rfl (by kernel_rfl) (by kernel_rfl) (by kernel_rfl) (fun _ _ _ h => h) (by rfl) ?yd8 (by assumption) ?rd8
            case yd8 => (intro w hSw; (try dsimp only at hSw); go_simp; try with_reducible rfl)
            try simp only [Act.put, List.setIfInBounds_toArray, List.set_cons_zero, List.set_cons_succ]
            refine take_run (i := 9) (v := ?vd9) rfl (by kernel_rfl) (by kernel_rfl) (by kernel_rfl) (fun _ _ _ h => h) (by rfl) ?yd9 (by assumption) ?rd9
            case yd9 => (intro w hSw; (try dsimp only at hSw); go_simp; try with_reducible rfl)
            try simp only [Act.put, List.setIfInBounds_toArray, List.set_cons_zero, List.set_cons_succ]
            refine take_run (i := 10) (v := ?vd10) rfl (by kernel_rfl) (by kernel_rfl) (by kernel_rfl) (fun _ _ _ h => h) (by rfl) ?yd10 (by assumption) ?rd10
            case yd10 => (intro w hSw; (try dsimp only at hSw); go_simp; try with_reducible rfl)
            try simp only [Act.put, List.setIfInBounds_toArray, List.set_cons_zero, List.set_cons_succ]
            refine take_run (i := 11) (v := ?vd11) rfl (by kernel_rfl) (by kernel_rfl) (by kernel_rfl) (fun _ _ _ h => h) (by rfl) ?yd11 (by assumption) ?rd11
            case yd11 => (intro w hSw; (try dsimp only at hSw); go_simp; try with_reducible rfl)
            try simp only [Act.put, List.setIfInBounds_toArray, List.set_cons_zero, List.set_cons_succ]
            refine take_run (i := 12) (v := ?vd12) rfl (by kernel_rfl) (by kernel_rfl) (by kernel_rfl) (fun _ _ _ h => h) (by rfl) ?yd12 (by assumption) ?rd12
            case yd12 => (intro w hSw; (try dsimp only at hSw); go_simp; try with_reducible rfl)
            try simp only [Act.put, List.setIfInBounds_toArray, List.set_cons_zero, List.set_cons_succ]
            refine take_run (i := 13) (v := ?vd13) rfl (by kernel_rfl) (by kernel_rfl) (by kernel_rfl) (fun _ _ _ h => h) (by rfl) ?yd13 (by assumption) ?rd13
            case yd13 => (intro w hSw; (try dsimp only at hSw); go_simp; try with_reducible rfl)
            try simp only [Act.put, List.setIfInBounds_toArray, List.set_cons_zero, List.set_cons_succ]
            refine take_call (i := 14) rfl (by kernel_rfl) (by rfl) (fun Kq hK => ?_)
            go_simp
            go_at_call 107
            refine HC.out.mono ?_
            rintro e w1 ⟨rfl, hb1⟩
            have HB1 := Lib.hid (bundrew hb1)
            have n0 := (HB1.out.cell (p := ⟨g, j, none⟩) zg).trans ca
            have n1 := (HB1.out.cell (p := ⟨g, j - 1, none⟩) zg).trans cb
            clear hb1
            refine hK.out _ _ ?hd14 (fun hHeld => ?rd14)
            case hd14 => ((try dsimp only); go_keep)
            clear hK Kq
            try simp only [Act.put, List.setIfInBounds_toArray, List.set_cons_zero, List.set_cons_succ]
            refine take_run (i := 15) (v := .bool false) rfl (by kernel_rfl) (by kernel_rfl) (by kernel_rfl) (fun _ _ _ h => h) (by rfl) ?yd15 (by assumption) ?rd15
            case yd15 => (intro w hSw; (try dsimp only at hSw); try go_simp; first | done | omega | (simp [hc1]; done) | trace_state)
            try simp only [Act.put, List.setIfInBounds_toArray, List.set_cons_zero, List.set_cons_succ]
            refine take_run (i := 16) (v := ?vd16) rfl (by kernel_rfl) (by kernel_rfl) (by kernel_rfl) (fun _ _ _ h => h) (by rfl) ?yd16 (by assumption) ?rd16
            case yd16 => (intro w hSw; (try dsimp only at hSw); go_simp; try with_reducible rfl)
            try simp only [Act.put, List.setIfInBounds_toArray, List.set_cons_zero, List.set_cons_succ]
            refine wpAnyH_done (by kernel_rfl) ?_ _
            refine NoPanic.normal ?_
            go_wp2_with fail
            go_roundw
            case rel => exact ⟨i + 1, zs, by omega, hlt, by go_num, HP.out.1.below HB1.out, HP.out.2.1, by rw [show i + 1 - 1 = i by omega]; exact HF.out, HP.out.2.2.2.below HB1.out⟩
            case measure => simp [intOf]; omega
    · have hii : i = xs.length := by omega
      have HF := Lib.hid (show SortedTo (ltAt rs) ys (xs.length - 1) by rw [← hii]; exact HO.out.2.2.1)
      have hlt' : ¬ (i : Int) < (xs.length : Int) := by omega
      clear hii
      go_wp2_with fail
      go_end0
      exact ⟨rfl, ys, HO.out.1, HO.out.2.1, HF.out, HO.out.2.2.2⟩
end Go.Proofs.YtaidadjekfcacaaDoor
