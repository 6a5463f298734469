/- Contract: parlref2.Leaves is the word of a tree. -/
import Derived.Test.YtlbhaegdcpacpaaDoorConcatTree
import Derived.Test.YtlbhaegdcpacpaaDoorYield
import Derived.Test.YtlbhaegdcpacpaaDoorKept
import Derived.Test.YtlbhaegdcpacpaaDoorTwo
import Derived.StillTailTactics
import Derived.Deep.LoopGhost
namespace Go.Proofs.YtlbhaegdcpacpaaDoor
open Go.RowKit
set_option linter.unusedVariables false

mutual
def nodesT : Tree → Nat
  | ⟨_, _, ks⟩ => 1 + nodesL ks
def nodesL : List Tree → Nat
  | [] => 0
  | k :: ks => nodesT k + nodesL ks
end
theorem nodesL_append : ∀ (a b : List Tree), nodesL (a ++ b) = nodesL a + nodesL b
  | [], b => by simp [nodesL]
  | x :: a, b => by simp only [List.cons_append, nodesL, nodesL_append a b]; omega
theorem yields_append : ∀ (a b : List Tree), yields (a ++ b) = yields a ++ yields b
  | [], b => by simp [yields]
  | x :: a, b => by simp only [List.cons_append, yields, yields_append a b, List.append_assoc]
theorem len_nodes : ∀ (a : List Tree), a.length ≤ nodesL a
  | [] => by simp [nodesL]
  | ⟨r, t, ks⟩ :: a => by have := len_nodes a; simp only [List.length_cons, nodesL, nodesT]; omega
mutual
theorem yield_nodes : ∀ (t : Tree), (yieldT t).length ≤ nodesT t
  | ⟨r, t, ks⟩ => by
    unfold yieldT nodesT
    split
    · simp
    · have := yields_nodes ks; omega
theorem yields_nodes : ∀ (ks : List Tree), (yields ks).length ≤ nodesL ks
  | [] => by simp [yields]
  | k :: ks => by
    have := yield_nodes k
    have := yields_nodes ks
    simp only [yields, List.length_append, nodesL]; omega
end

theorem Els.tail3 {w : World} {S : Nat → Prop} {x : Tree} {xs : List Tree} {b o : Nat} (h : Els w S (x :: xs) (some ⟨b, o, none⟩)) : Els w S xs (some ⟨b, o + 3, none⟩) := by
  intro _
  obtain ⟨b', o', e, hS, hx⟩ := h (by simp)
  injection e with e
  injection e with e1 e2 _
  subst e1; subst e2
  refine ⟨b, o + 3, rfl, hS, fun i y hi => ?_⟩
  obtain ⟨cs, h1, h2⟩ := hx (i + 1) y (by simpa using hi)
  refine ⟨cs, h1, ?_⟩
  have e : Dat.size Tree = 3 := rfl
  rw [e] at h2 ⊢
  rwa [show o + 3 + i * 3 = o + (i + 1) * 3 from by omega]
theorem Els.nilAny {α : Type} [Dat α] {w : World} {S : Nat → Prop} (A : Option Addr) : Els w S ([] : List α) A := fun h => absurd rfl h
/-- Two lists side by side in a row of two slices. -/
theorem els_two {w : World} {S : Nat → Prop} {g : Nat} {t : TypeId} {xs ys : List Tree} {A B : Option Addr} {c d : Nat} (hb : Blk' w g t #[.slice A xs.length c, .slice B ys.length d]) (hg : S g) (h1 : xs.length ≤ c) (h2 : c ≤ 9223372036854775807) (h3 : ys.length ≤ d) (h4 : d ≤ 9223372036854775807) (hx : Els w S xs A) (hy : Els w S ys B) : Els w S [xs, ys] (some ⟨g, 0, none⟩) := by
  intro _
  refine ⟨g, 0, rfl, hg, fun i z hi => ?_⟩
  match i, hi with
  | 0, hi =>
    simp at hi
    subst hi
    refine ⟨[.slice A xs.length c], ⟨A, c, rfl, h1, by simpa [maxLen] using h2, hx⟩, fun j u hu => ?_⟩
    match j, hu with
    | 0, hu => simp at hu; subst hu; exact hb.cell 0
  | 1, hi =>
    simp at hi
    subst hi
    refine ⟨[.slice B ys.length d], ⟨B, d, rfl, h3, by simpa [maxLen] using h4, hy⟩, fun j u hu => ?_⟩
    match j, hu with
    | 0, hu => simp at hu; subst hu; exact hb.cell 1

/-- The places of a list of trees that the word's row does not take. -/
def LvS (v : Value) (w : World) (b : Nat) : Prop := b < w.heap.size ∧ v.ownBlock ≠ some b
def LvL (t : Tree) (B : Nat) (w : World) (gk : Nat) (v a : Value) (wr : World) : Prop :=
  ∃ (out : List Int) (todo : List Tree) (A : Option Addr) (c : Nat), a = .slice A todo.length c ∧ todo.length ≤ c ∧ c ≤ 9223372036854775807 ∧ yieldT t = out ++ yields todo ∧ out.length + nodesL todo ≤ nodesT t ∧ nodesL todo ≤ gk ∧ Own wr (fun _ => False) B 3 v out ∧ Els wr (LvS v wr) todo A ∧ Below B w wr

set_option maxRecDepth 100000 in
set_option maxHeartbeats 4000000 in
theorem leaves_any (t : Tree) (A0 : Option Addr) (c0 : Nat) (S : Nat → Prop) (w : World) (hS : ∀ b, S b → b < w.heap.size) (hr : I64 t.rule) (ht : I64 t.term) (hlc : t.kids.length ≤ c0) (hc : c0 ≤ 9223372036854775807) (hA : Els w S t.kids A0) (hn : nodesT t ≤ 1100000) :
    Calls Tryd.prog 16 #[.agg #[.int .i64 t.rule, .int .i64 t.term, .slice A0 t.kids.length c0]] w (RetOwn w (fun _ => False) 3 (yieldT t)) := by
  have hb1 : Below w.heap.size w ((w.alloc (.cells #[.int .i64 t.rule, .int .i64 t.term, .slice A0 t.kids.length c0] 27)).alloc (.cells #[.int .i64 t.rule, .int .i64 t.term, .slice A0 t.kids.length c0] 27)) := ((Below.refl _ _).alloc (Nat.le_refl _) _).alloc (by simp) _
  have HB1 := Lib.hid hb1
  have HE1 : Hid (Els ((w.alloc (.cells #[.int .i64 t.rule, .int .i64 t.term, .slice A0 t.kids.length c0] 27)).alloc (.cells #[.int .i64 t.rule, .int .i64 t.term, .slice A0 t.kids.length c0] 27)) (LvS (.slice none 0 0) ((w.alloc (.cells #[.int .i64 t.rule, .int .i64 t.term, .slice A0 t.kids.length c0] 27)).alloc (.cells #[.int .i64 t.rule, .int .i64 t.term, .slice A0 t.kids.length c0] 27))) [t] (some ⟨w.heap.size + 1, 0, none⟩)) := Lib.hid (by
    intro _
    refine ⟨w.heap.size + 1, 0, rfl, ⟨by simp, by simp [Value.ownBlock]⟩, fun i x hi => ?_⟩
    match i, hi with
    | 0, hi =>
      simp at hi
      subst hi
      refine ⟨[.int .i64 t.rule, .int .i64 t.term, .slice A0 t.kids.length c0], rd_tree.2 ⟨_, rfl, hr, ht, Vl.of_slice rfl hlc hc ((hA.below hb1).keep (fun _ _ _ => rfl) (fun b hb => ⟨by have := hS b hb; simp; omega, by simp [Value.ownBlock]⟩))⟩, ?_⟩
      have h := At.new (w.alloc (.cells #[.int .i64 t.rule, .int .i64 t.term, .slice A0 t.kids.length c0] 27)) [.int .i64 t.rule, .int .i64 t.term, .slice A0 t.kids.length c0] 27
      simpa using h)
  have HN := Lib.hid hn
  clear hb1 hA hS hr ht hn
  go_enter Tryd.func16, Tryd.ntmps16
  go_wp2_with fail
  go_loopg [3, 4] (nodesT t) (fun gk v a wr => LvL t w.heap.size w gk v a wr)
  case atStart => exact ⟨[], [t], _, 1, rfl, by simp, by omega, by simp [yields], by simp [nodesL], by simp [nodesL], Own.nil _ _ _ _, HE1.out, HB1.out⟩
  case round =>
    obtain ⟨wo, hwo⟩ : ∃ wo : World, wo = wr := ⟨_, rfl⟩
    subst hwo
    obtain ⟨out, todo, A, c, rfl, htc, hcm, hy, hnn, hgk, hown, hels, hb⟩ := hrel
    have HY := Lib.hid hy
    have HO := Lib.hid hown
    have HE := Lib.hid hels
    have HB := Lib.hid hb
    have HG := Lib.hid (And.intro hnn hgk)
    clear hy hown hels hb hnn hgk
    cases todo with
    | nil =>
      have HE2 := Lib.hid (show yieldT t = out by rw [HY.out]; simp [yields])
      go_wp2
      go_ret
      exact ⟨_, rfl, by rw [HE2.out]; exact HO.out, HB.out⟩
    | cons x rest =>
      obtain ⟨b, o, Ax, cx, rfl, hSb, hbs, hi, hi2, hx1, hx2, hEx, hc0, hc1, hc2⟩ := HE.out.tree (k := 0) (x := x) rfl
      have HX := Lib.hid (And.intro hi (And.intro hi2 hEx))
      have HTl := Lib.hid HE.out.tail3
      obtain ⟨Av, cv, e1, _⟩ := HO.out.form
      subst e1
      have hol : out.length ≤ 1100000 := by have := HG.out.1; have := HN.out; omega
      have hrl : rest.length ≤ 1100000 := by have h1 := len_nodes (x :: rest); have := HG.out.1; have := HN.out; rw [List.length_cons] at h1; omega
      have hcc : rest.length + 1 ≤ c := htc
      have HOB := Lib.hid HO.out.block
      have HBs := Lib.hid HB.out.size
      have HSb := Lib.hid hSb
      simp only [Nat.zero_mul, Nat.add_zero] at hc0 hc1 hc2
      rw [show (x :: rest).length = rest.length + 1 from rfl]
      clear hi hi2 hEx htc hSb
      by_cases hr0 : x.rule < 0
      · have HYx := Lib.hid (show yieldT t = (out ++ [x.term]) ++ yields rest by
          rw [HY.out]
          obtain ⟨xr, xt, xk⟩ := x
          have : xr < 0 := hr0
          simp only [yields, yieldT, if_pos this, Tree.term, List.append_assoc])
        have HNx := Lib.hid (show (out ++ [x.term]).length + nodesL rest ≤ nodesT t ∧ nodesL rest < nodesL (x :: rest) by
          have h1 := HG.out.1
          obtain ⟨xr, xt, xk⟩ := x
          simp only [nodesL, nodesT, List.length_append, List.length_cons, List.length_nil] at h1 ⊢
          omega)
        have hcap1 : (out.length + 1) * 8 ≤ 140737488355328 := by omega
        have hcap2 : out.length + 1 ≤ 9223372036854775807 := by omega
        have HO2 := Lib.hid ((HO.out.alloc (.cells #[.int .i64 x.rule, .int .i64 x.term, .slice Ax x.kids.length cx] 27)).alloc (.cells #[.int .i64 x.term] 3))
        have HB2 := Lib.hid ((HB.out.alloc HB.out.size (.cells #[.int .i64 x.rule, .int .i64 x.term, .slice Ax x.kids.length cx] 27)).alloc (by have := HB.out.size; simp; omega) (.cells #[.int .i64 x.term] 3))
        have HT2 := Lib.hid (HTl.out.below (((Below.refl wo.heap.size wo).alloc (Nat.le_refl _) (.cells #[.int .i64 x.rule, .int .i64 x.term, .slice Ax x.kids.length cx] 27)).alloc (by simp) (.cells #[.int .i64 x.term] 3)))
        by_cases hc1' : c = 1
        · have hrn : rest = [] := List.eq_nil_of_length_eq_zero (by omega)
          subst hrn
          subst hc1'
          go_wp2_with (at_builtin; refine wpList_own1 _ rfl _ _ elemInt rfl rfl HO2.out x.term [.int .i64 x.term] rfl (At.new1 wo [.int .i64 x.term] 3 (.cells #[.int .i64 x.rule, .int .i64 x.term, .slice Ax x.kids.length cx] 27)) ⟨rfl, HX.out.2.1⟩ hcap1 hcap2 (by have := HBs.out; simp; omega) ?_; intro v' w5 hown5 hg5 hat5; have H5 := Lib.hid (And.intro hown5 (And.intro hg5 hat5)); clear hown5 hg5 hat5)
          go_roundg 0
          case measure => have := HNx.out.2; simp only [nodesL] at this ⊢; have := HG.out.2; simp only [nodesL] at this; omega
          case rel => exact ⟨out ++ [x.term], [], _, _, rfl, by simp, by omega, HYx.out, HNx.out.1, by simp [nodesL], H5.out.1, Els.nilAny _, HB2.out.grown H5.out.2.1 (by have := HBs.out; simp; omega) (fun k hk => (HOB.out k hk).1)⟩
        · have hce : (c = 1) = False := by simp [hc1']
          go_wp2_with (at_builtin; refine wpList_own1 _ rfl _ _ elemInt rfl rfl HO2.out x.term [.int .i64 x.term] rfl (At.new1 wo [.int .i64 x.term] 3 (.cells #[.int .i64 x.rule, .int .i64 x.term, .slice Ax x.kids.length cx] 27)) ⟨rfl, HX.out.2.1⟩ hcap1 hcap2 (by have := HBs.out; simp; omega) ?_; intro v' w5 hown5 hg5 hat5; have H5 := Lib.hid (And.intro hown5 (And.intro hg5 hat5)); clear hown5 hg5 hat5)
          go_roundg (nodesL rest)
          case measure => have := HNx.out.2; have := HG.out.2; omega
          case rel => exact ⟨out ++ [x.term], rest, some ⟨b, o + 3, none⟩, c - 1, rfl, by omega, by omega, HYx.out, HNx.out.1, Nat.le_refl _, H5.out.1, (HT2.out.grown H5.out.2.1 (fun k hk h => h.2 hk)).keep (fun _ _ _ => rfl) (fun b hb => ⟨by have := H5.out.2.1.size; have := hb.1; simp at *; omega, fun e => by
            rcases H5.out.2.2 with h | h
            · rw [h] at e; exact hb.2 e
            · rw [h] at e; injection e with e; have := hb.1; simp at e; omega⟩), HB2.out.grown H5.out.2.1 (by have := HBs.out; simp; omega) (fun k hk => (HOB.out k hk).1)⟩
      · have hr00 : 0 ≤ x.rule := by omega
        have HYx := Lib.hid (show yieldT t = out ++ yields (x.kids ++ rest) by
          rw [HY.out, yields_append]
          obtain ⟨xr, xt, xk⟩ := x
          have : ¬ xr < 0 := hr0
          simp only [yields, yieldT, if_neg this, Tree.kids])
        have HNx := Lib.hid (show out.length + nodesL (x.kids ++ rest) ≤ nodesT t ∧ nodesL (x.kids ++ rest) < nodesL (x :: rest) by
          have h1 := HG.out.1
          rw [nodesL_append]
          obtain ⟨xr, xt, xk⟩ := x
          simp only [nodesL, nodesT, Tree.kids] at h1 ⊢
          omega)
        obtain ⟨w1, hw1⟩ : ∃ w1 : World, w1 = wo.alloc (.cells #[.int .i64 x.rule, .int .i64 x.term, .slice Ax x.kids.length cx] 27) := ⟨_, rfl⟩
        have hbx : Below wo.heap.size wo w1 := by rw [hw1]; exact (Below.refl _ _).alloc (Nat.le_refl _) _
        have hx2' : w1.cell? ⟨wo.heap.size, 2, none⟩ = some (.slice Ax x.kids.length cx) := by rw [hw1]; exact (Blk'.new wo 27 #[.int .i64 x.rule, .int .i64 x.term, .slice Ax x.kids.length cx]).cell 2
        have HW1 := Lib.hid hw1
        have HBx := Lib.hid hbx
        have hkl : x.kids.length + rest.length ≤ 1100000 := by have h1 := len_nodes (x.kids ++ rest); have := HNx.out.1; have := HN.out; rw [List.length_append] at h1; omega
        have hwx : wo.heap.size ≤ w1.heap.size := hbx.size
        have HKa := Lib.hid (HX.out.2.2.below hbx)
        have HTa := Lib.hid (HTl.out.below hbx)
        have HOa := Lib.hid (HO.out.below hbx (Nat.le_refl _))
        clear hw1 hbx
        have h1r : (1 : Int) ≤ (rest.length : Int) + 1 := by omega
        by_cases hc1' : c = 1
        · have hrn : rest = [] := List.eq_nil_of_length_eq_zero (by omega)
          subst hrn
          subst hc1'
          have HE2 : Hid (Els (w1.alloc (.cells #[.slice Ax x.kids.length cx, .slice (some ⟨b, o, none⟩) 0 0] 25)).drew (LvS (.slice Av out.length cv) (w1.alloc (.cells #[.slice Ax x.kids.length cx, .slice (some ⟨b, o, none⟩) 0 0] 25)).drew) [x.kids, []] (some ⟨w1.heap.size, 0, none⟩)) := Lib.hid (by
            have hbl : Below w1.heap.size w1 (w1.alloc (.cells #[.slice Ax x.kids.length cx, .slice (some ⟨b, o, none⟩) 0 0] 25)).drew := ((Below.refl _ _).alloc (Nat.le_refl _) _).drew
            have hm : ∀ q, LvS (.slice Av out.length cv) wo q → LvS (.slice Av out.length cv) (w1.alloc (.cells #[.slice Ax x.kids.length cx, .slice (some ⟨b, o, none⟩) 0 0] 25)).drew q := fun q hq => ⟨by have := hq.1; simp; omega, hq.2⟩
            exact els_two (c := cx) (d := 0) ((Blk'.new w1 25 #[.slice Ax x.kids.length cx, .slice (some ⟨b, o, none⟩) [].length 0]).drew) ⟨by simp, fun e => by have := (HOB.out _ e).2; omega⟩ hx1 hx2 (by simp) (by omega) ((HKa.out.below hbl).keep (fun _ _ _ => rfl) hm) (Els.nilAny _))
          have HO2 := Lib.hid (HOa.out.below (((Below.refl w1.heap.size w1).alloc (Nat.le_refl _) (.cells #[.slice Ax x.kids.length cx, .slice (some ⟨b, o, none⟩) 0 0] 25)).drew) (Nat.le_refl _))
          have HB2 := Lib.hid (bthen HB.out (HBx.out.trans ((((Below.refl w1.heap.size w1).alloc (Nat.le_refl _) (.cells #[.slice Ax x.kids.length cx, .slice (some ⟨b, o, none⟩) 0 0] 25)).drew).mono hwx)) HBs.out)
          go_wp2_with fail
          rw [← HW1.out]
          go_still_tail 4, (by kernel_rfl)
          change wpList _ _ _ _ _ w1.drew
          go_wp2_with fail
          refine (concatTree_any (some ⟨w1.heap.size, 0, none⟩) 2 [x.kids, []] _ _ (by show 2 ≤ 9223372036854775807; omega) HE2.out (fun q hq => hq.1) (by simp; omega)).mono ?_
          rintro e w6 ⟨v6, rfl, hown6, hb6⟩
          obtain ⟨A6, c6, e6, hl6, hm6, _⟩ := hown6.form
          subst e6
          have hfl : [x.kids, []].flatten = x.kids ++ [] := by simp
          rw [hfl] at hown6 hl6
          rw [hfl]
          have H6 := Lib.hid (And.intro hown6 hb6)
          have hl6' := hl6
          clear hown6 hb6 hl6
          go_wp2
          go_roundg (nodesL (x.kids ++ []))
          case measure => have := HNx.out.2; have := HG.out.2; omega
          case rel => exact ⟨out, x.kids ++ [], A6, c6, by simp, hl6', hm6, HYx.out, HNx.out.1, Nat.le_refl _, HO2.out.below H6.out.2 (Nat.le_refl _), (H6.out.1.vl.els).2.2.2.keep (fun _ _ _ => rfl) (fun q hq => ⟨hq.2, fun e => by
            have h1 := (HOB.out q e).2
            rcases hq.1 with h | h
            · exact h.2 e
            · simp at h; omega⟩), bthen HB2.out H6.out.2 (by have := HB2.out.size; omega)⟩
        · have hce : (c = 1) = False := by simp [hc1']
          have HE2 : Hid (Els (w1.alloc (.cells #[.slice Ax x.kids.length cx, .slice (some ⟨b, o + 3, none⟩) rest.length (c - 1)] 25)).drew (LvS (.slice Av out.length cv) (w1.alloc (.cells #[.slice Ax x.kids.length cx, .slice (some ⟨b, o + 3, none⟩) rest.length (c - 1)] 25)).drew) [x.kids, rest] (some ⟨w1.heap.size, 0, none⟩)) := Lib.hid (by
            have hbl : Below w1.heap.size w1 (w1.alloc (.cells #[.slice Ax x.kids.length cx, .slice (some ⟨b, o + 3, none⟩) rest.length (c - 1)] 25)).drew := ((Below.refl _ _).alloc (Nat.le_refl _) _).drew
            have hm : ∀ q, LvS (.slice Av out.length cv) wo q → LvS (.slice Av out.length cv) (w1.alloc (.cells #[.slice Ax x.kids.length cx, .slice (some ⟨b, o + 3, none⟩) rest.length (c - 1)] 25)).drew q := fun q hq => ⟨by have := hq.1; simp; omega, hq.2⟩
            exact els_two (c := cx) (d := (c - 1)) ((Blk'.new w1 25 #[.slice Ax x.kids.length cx, .slice (some ⟨b, o + 3, none⟩) rest.length (c - 1)]).drew) ⟨by simp, fun e => by have := (HOB.out _ e).2; omega⟩ hx1 hx2 (by omega) (by omega) ((HKa.out.below hbl).keep (fun _ _ _ => rfl) hm) ((HTa.out.below hbl).keep (fun _ _ _ => rfl) hm))
          have HO2 := Lib.hid (HOa.out.below (((Below.refl w1.heap.size w1).alloc (Nat.le_refl _) (.cells #[.slice Ax x.kids.length cx, .slice (some ⟨b, o + 3, none⟩) rest.length (c - 1)] 25)).drew) (Nat.le_refl _))
          have HB2 := Lib.hid (bthen HB.out (HBx.out.trans ((((Below.refl w1.heap.size w1).alloc (Nat.le_refl _) (.cells #[.slice Ax x.kids.length cx, .slice (some ⟨b, o + 3, none⟩) rest.length (c - 1)] 25)).drew).mono hwx)) HBs.out)
          go_wp2_with fail
          rw [← HW1.out]
          go_still_tail 4, (by kernel_rfl)
          change wpList _ _ _ _ _ w1.drew
          go_wp2_with fail
          refine (concatTree_any (some ⟨w1.heap.size, 0, none⟩) 2 [x.kids, rest] _ _ (by show 2 ≤ 9223372036854775807; omega) HE2.out (fun q hq => hq.1) (by simp; omega)).mono ?_
          rintro e w6 ⟨v6, rfl, hown6, hb6⟩
          obtain ⟨A6, c6, e6, hl6, hm6, _⟩ := hown6.form
          subst e6
          have hfl : [x.kids, rest].flatten = x.kids ++ rest := by simp
          rw [hfl] at hown6 hl6
          rw [hfl]
          have H6 := Lib.hid (And.intro hown6 hb6)
          have hl6' := hl6
          clear hown6 hb6 hl6
          go_wp2
          go_roundg (nodesL (x.kids ++ rest))
          case measure => have := HNx.out.2; have := HG.out.2; omega
          case rel => exact ⟨out, x.kids ++ rest, A6, c6, by simp, hl6', hm6, HYx.out, HNx.out.1, Nat.le_refl _, HO2.out.below H6.out.2 (Nat.le_refl _), (H6.out.1.vl.els).2.2.2.keep (fun _ _ _ => rfl) (fun q hq => ⟨hq.2, fun e => by
            have h1 := (HOB.out q e).2
            rcases hq.1 with h | h
            · exact h.2 e
            · simp at h; omega⟩), bthen HB2.out H6.out.2 (by have := HB2.out.size; omega)⟩
end Go.Proofs.YtlbhaegdcpacpaaDoor
