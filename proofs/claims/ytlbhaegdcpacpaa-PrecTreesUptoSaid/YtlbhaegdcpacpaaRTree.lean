/- Contracts: parlref2.Top, Known, shape, walk, TreeErr. -/
import Derived.Test.YtlbhaegdcpacpaaTreeE
import Derived.Test.YtlbhaegdcpacpaaValid
import Derived.Test.YtlbhaegdcpacpaaYield
import Derived.Test.YtlbhaegdcpacpaaKept
import Derived.Deep.RegionHeld3
import Derived.Deep.QuietTactic
import Derived.BigQuiet
namespace Go.Proofs.Ytlbhaegdcpacpaa
open Go.RowKit
set_option linter.unusedVariables false

set_option maxRecDepth 100000 in
set_option maxHeartbeats 1000000 in
theorem top_any (g : Gram) (A : Option Addr) (c : Nat) (S : Nat → Prop) (r t : Int) (T : Option Addr) (n d : Nat) (ks : List Tree) (w : World) (hc : g.rules.length ≤ 9223372036854775807) (hA : Els w S g.rules A) :
    Calls Try.prog 98 #[.agg #[.int .i64 g.terms, .int .i64 g.nons, .int .i64 g.start, .slice A g.rules.length c], .agg #[.int .i64 r, .int .i64 t, .slice T n d]] w
      fun e w' => e = .returned (.agg #[.bool (rootS g ⟨r, t, ks⟩).term, .int .i64 (rootS g ⟨r, t, ks⟩).n]) ∧ Below w.heap.size w w' := by
  obtain ⟨gt, gn, gs, rs⟩ := g
  dsimp only at *
  have HB : Hid (∀ o1 o2 o3 : Obj, Below w.heap.size w (((w.alloc o1).alloc o2).alloc o3)) := Lib.hid (fun o1 o2 o3 => (((Below.refl _ _).alloc (Nat.le_refl _) _).alloc (by simp) _).alloc (by simp; omega) _)
  by_cases h0 : r < 0
  · have HE := Lib.hid (show rootS ⟨gt, gn, gs, rs⟩ ⟨r, t, ks⟩ = ⟨true, t⟩ by simp [rootS, h0])
    have h0' : ¬ 0 ≤ r := by omega
    clear h0
    go_enter Try.func98, Try.ntmps98
    go_wp2
    refine bodyPost_ret (v := .agg #[.bool true, .int .i64 t]) (by simp [results, Try.results98, go_sem]) rfl ⟨by rw [HE.out], HB.out _ _ _⟩
  · have hn0 : 0 ≤ r := by omega
    by_cases h1 : (rs.length : Int) ≤ r
    · have HE := Lib.hid (show rootS ⟨gt, gn, gs, rs⟩ ⟨r, t, ks⟩ = ⟨true, t⟩ by simp only [rootS, if_neg h0]; rw [List.getElem?_eq_none (by omega)])
      have h1' : ¬ r < (rs.length : Int) := by omega
      clear h0 h1
      go_enter Try.func98, Try.ntmps98
      go_wp2
      refine bodyPost_ret (v := .agg #[.bool true, .int .i64 t]) (by simp [results, Try.results98, go_sem]) rfl ⟨by rw [HE.out], HB.out _ _ _⟩
    · obtain ⟨q, hq⟩ := get_some (show r.toNat < rs.length by omega)
      obtain ⟨b, o, A', c', rfl, _, hbs, hi, _, _, _, hc0, hc1⟩ := hA.rule hq
      have HE := Lib.hid (show rootS ⟨gt, gn, gs, rs⟩ ⟨r, t, ks⟩ = ⟨false, q.left⟩ by simp only [rootS, if_neg h0]; rw [hq])
      have hr1 : r < (rs.length : Int) := by omega
      have hb1 : b < w.heap.size + 1 := by omega
      have hb2 : b < w.heap.size + 1 + 1 := by omega
      clear hq h0 h1
      go_enter Try.func98, Try.ntmps98
      go_wp2
      refine bodyPost_ret (v := .agg #[.bool false, .int .i64 q.left]) (by simp [results, Try.results98, go_sem]) rfl ⟨by rw [HE.out], HB.out _ _ _⟩
theorem top_y (g : Gram) (A : Option Addr) (c : Nat) (S : Nat → Prop) (x : Tree) (T : Option Addr) (n d : Nat) (w : World) (hc : g.rules.length ≤ 9223372036854775807) (hA : Els w S g.rules A) (yt : Bool) (yn : Int) (hy : rootS g x = ⟨yt, yn⟩) :
    Calls Try.prog 98 #[.agg #[.int .i64 g.terms, .int .i64 g.nons, .int .i64 g.start, .slice A g.rules.length c], .agg #[.int .i64 x.rule, .int .i64 x.term, .slice T n d]] w
      fun e w' => e = .returned (.agg #[.bool yt, .int .i64 yn]) ∧ Below w.heap.size w w' := by
  refine (top_any g A c S x.rule x.term T n d x.kids w hc hA).mono ?_
  rintro e w' ⟨rfl, hb⟩
  have e : (⟨x.rule, x.term, x.kids⟩ : Tree) = x := by cases x; rfl
  rw [e, hy]
  exact ⟨rfl, hb⟩

set_option maxRecDepth 100000 in
theorem knownT_any (t n s0 : Int) (sl : Value) (sn : Int) (w : World) (hsl : ∃ A k c, sl = .slice A k c) :
    Calls Try.prog 118 #[.agg #[.int .i64 t, .int .i64 n, .int .i64 s0, sl], .agg #[.bool true, .int .i64 sn]] w fun e w' => e = .returned (.bool (decide (0 ≤ sn) && decide (sn < t))) ∧ Below w.heap.size w w' := by
  obtain ⟨A, k, c, rfl⟩ := hsl
  have HB : Hid (∀ o1 o2 : Obj, Below w.heap.size w ((w.alloc o1).alloc o2)) := Lib.hid (fun o1 o2 => ((Below.refl _ _).alloc (Nat.le_refl _) _).alloc (by simp) _)
  by_cases h0 : 0 ≤ sn
  · have HE := Lib.hid (show (decide (0 ≤ sn) && decide (sn < t)) = decide (sn < t) by simp [h0])
    go_enter Try.func118, Try.ntmps118
    go_wp2
    go_ret
    exact ⟨ret_bool HE.out.symm, HB.out _ _⟩
  · have HE := Lib.hid (show (decide (0 ≤ sn) && decide (sn < t)) = false by simp [h0])
    go_enter Try.func118, Try.ntmps118
    go_wp2
    go_ret
    exact ⟨ret_bool HE.out.symm, HB.out _ _⟩

/-- A node's shape. -/
def shapeB (g : Gram) : Tree → Bool
  | ⟨r, t, ks⟩ => if r = -1 then decide (ks = []) && (decide (0 ≤ t) && decide (t < g.terms)) else if r < 0 then false else match g.rules[r.toNat]? with
    | none => false
    | some q => decide (t = 0) && decide (ks.length = q.right.length)

set_option maxRecDepth 100000 in
set_option maxHeartbeats 20000000 in
theorem shape_any (g : Gram) (A : Option Addr) (c : Nat) (S : Nat → Prop) (r t : Int) (T : Option Addr) (d : Nat) (ks : List Tree) (w : World) (hc : g.rules.length ≤ 9223372036854775807) (hk : ks.length ≤ 9223372036854775807) (hrr : ∀ q ∈ g.rules, q.right.length ≤ 1000) (hA : Els w S g.rules A) :
    Calls Try.prog 97 #[.agg #[.int .i64 g.terms, .int .i64 g.nons, .int .i64 g.start, .slice A g.rules.length c], .agg #[.int .i64 r, .int .i64 t, .slice T ks.length d]] w
      fun e w' => e = .returned (.bool (shapeB g ⟨r, t, ks⟩)) ∧ Below w.heap.size w w' := by
  obtain ⟨gt, gn, gs, rs⟩ := g
  dsimp only at *
  have HB : Hid (∀ o1 o2 : Obj, Below w.heap.size w ((w.alloc o1).alloc o2)) := Lib.hid (fun o1 o2 => ((Below.refl _ _).alloc (Nat.le_refl _) _).alloc (by simp) _)
  by_cases hm : r = -1
  · subst hm
    by_cases hke : ks = []
    · subst hke
      have HE := Lib.hid (show shapeB ⟨gt, gn, gs, rs⟩ ⟨-1, t, []⟩ = (decide (0 ≤ t) && decide (t < gt)) by simp [shapeB])
      go_enter Try.func97, Try.ntmps97
      go_wp2_with fail
      refine (knownT_any gt gn gs _ t _ ⟨_, _, _, rfl⟩).mono ?_
      rintro e w1 ⟨rfl, hb1⟩
      have HZ := Lib.hid (bthen (HB.out _ _) hb1 (by simp; omega))
      generalize (decide (0 ≤ t) && decide (t < gt)) = b at *
      clear hb1
      go_wp2
      go_ret
      exact ⟨ret_bool HE.out.symm, HZ.out⟩
    · have HE := Lib.hid (show shapeB ⟨gt, gn, gs, rs⟩ ⟨-1, t, ks⟩ = false by simp [shapeB, hke])
      have hkl : 0 < ks.length := List.length_pos_iff.2 hke
      have hkz : ((ks.length : Int) == 0) = false := by rw [beq_eq_false_iff_ne]; omega
      clear hke
      go_enter Try.func97, Try.ntmps97
      go_wp2
      go_ret
      exact ⟨ret_bool HE.out.symm, HB.out _ _⟩
  · have hm' : (r == -1) = false := by simpa using hm
    by_cases hr0 : r < 0
    · have HE := Lib.hid (show shapeB ⟨gt, gn, gs, rs⟩ ⟨r, t, ks⟩ = false by simp [shapeB, hm, hr0])
      clear hm
      go_enter Try.func97, Try.ntmps97
      go_wp2_with fail
      have q1 : decide (0 ≤ r) = false := decide_eq_false (by omega)
      go_quiet (fail)
      clear q1
      go_wp2
      go_ret
      exact ⟨ret_bool HE.out.symm, bdrewN (HB.out _ _)⟩
    · by_cases hr1 : (rs.length : Int) ≤ r
      · have HE := Lib.hid (show shapeB ⟨gt, gn, gs, rs⟩ ⟨r, t, ks⟩ = false by simp only [shapeB, if_neg hm, if_neg hr0]; rw [List.getElem?_eq_none (by omega)])
        clear hm
        go_enter Try.func97, Try.ntmps97
        go_wp2_with fail
        have q1 : decide (0 ≤ r) = true := decide_eq_true (by omega)
        have q2 : decide (r < (rs.length : Int)) = false := decide_eq_false (by omega)
        go_quiet (fail)
        clear q1 q2
        go_wp2
        go_ret
        exact ⟨ret_bool HE.out.symm, bdrewN (HB.out _ _)⟩
      · obtain ⟨q, hq⟩ := get_some (show r.toNat < rs.length by omega)
        obtain ⟨b, o, A', c', rfl, _, hbs, hi, _, _, _, hc0, hc1⟩ := hA.rule hq
        have hr00 : 0 ≤ r := by omega
        have hr11 : r < (rs.length : Int) := by omega
        have hqr := hrr q (List.mem_of_getElem? hq)
        have hb1 : b < w.heap.size + 1 := by omega
        by_cases ht0 : t = 0
        · subst ht0
          have HE := Lib.hid (show shapeB ⟨gt, gn, gs, rs⟩ ⟨r, 0, ks⟩ = ((ks.length : Int) == (q.right.length : Int)) by
            simp only [shapeB, if_neg hm, if_neg hr0, hq]
            rw [Bool.eq_iff_iff]; simp; omega)
          have hql : q.right.length ≤ 9223372036854775807 := by omega
          clear hm hr0 hr1 hq hrr
          go_enter Try.func97, Try.ntmps97
          go_wp2_with fail
          have q1 : decide (0 ≤ r) = true := decide_eq_true (by omega)
          have q2 : decide (r < (rs.length : Int)) = true := decide_eq_true (by omega)
          go_quiet (fail)
          clear q1 q2
          go_wp2
          go_ret
          exact ⟨ret_bool HE.out.symm, bdrewN (HB.out _ _)⟩
        · have HE := Lib.hid (show shapeB ⟨gt, gn, gs, rs⟩ ⟨r, t, ks⟩ = false by simp only [shapeB, if_neg hm, if_neg hr0, hq]; simp [ht0])
          have ht0' : (t == 0) = false := by simpa using ht0
          clear hm hr0 hr1 hq hrr ht0
          go_enter Try.func97, Try.ntmps97
          go_wp2_with fail
          have q1 : decide (0 ≤ r) = true := decide_eq_true (by omega)
          have q2 : decide (r < (rs.length : Int)) = true := decide_eq_true (by omega)
          go_quiet (fail)
          clear q1 q2
          go_wp2
          go_ret
          exact ⟨ret_bool HE.out.symm, bdrewN (HB.out _ _)⟩
theorem visitE_bad {g : Gram} {t : Tree} {n : Int} (hn : ¬ 5000 ≤ n) (h : shapeB g t = false) : (visitE g t n).1 = 3 := by
  obtain ⟨r, t, ks⟩ := t
  unfold visitE
  simp only [shapeB] at h
  rw [if_neg hn]
  by_cases hm : r = -1
  · rw [if_pos hm] at h ⊢
    rw [if_pos]
    by_cases hk : ks = []
    · simp only [hk, decide_true, Bool.true_and, Bool.and_eq_false_iff, decide_eq_false_iff_not] at h
      omega
    · exact .inr (.inr hk)
  · rw [if_neg hm] at h ⊢
    by_cases hr : r < 0
    · rw [if_pos hr]
    · rw [if_neg hr] at h ⊢
      cases hq : g.rules[r.toNat]? with
      | none => rfl
      | some q =>
        rw [hq] at h
        simp only [Bool.and_eq_false_iff, decide_eq_false_iff_not] at h
        simp only
        rw [if_pos h]
theorem visitE_good {g : Gram} {t : Tree} {n : Int} (hn : ¬ 5000 ≤ n) (h : shapeB g t = true) : ∃ ss, visitE g t n = kidsE g t.kids ss (n + 1) ∧ t.kids.length = ss.length ∧ (t.kids ≠ [] → 0 ≤ t.rule ∧ ∃ q, g.rules[t.rule.toNat]? = some q ∧ q.right = ss) := by
  obtain ⟨r, t, ks⟩ := t
  dsimp only [Tree.kids, Tree.rule]
  unfold visitE
  simp only [shapeB] at h
  rw [if_neg hn]
  by_cases hm : r = -1
  · rw [if_pos hm] at h ⊢
    simp only [Bool.and_eq_true, decide_eq_true_iff] at h
    obtain ⟨h1, h2, h3⟩ := h
    subst h1
    rw [if_neg (by simp; omega)]
    exact ⟨[], rfl, rfl, fun h => absurd rfl h⟩
  · rw [if_neg hm] at h ⊢
    by_cases hr : r < 0
    · rw [if_pos hr] at h; cases h
    · rw [if_neg hr] at h ⊢
      cases hq : g.rules[r.toNat]? with
      | none => rw [hq] at h; cases h
      | some q =>
        rw [hq] at h
        simp only [Bool.and_eq_true, decide_eq_true_iff] at h
        simp only
        rw [if_neg (by omega)]
        exact ⟨q.right, rfl, h.2, fun _ => ⟨by omega, q, rfl, rfl⟩⟩
theorem bdrew2 {a w w' : World} (h : Below a.heap.size a w) (k : Below w.heap.size w.drew w') : Below a.heap.size a w' := by
  refine h.trans ?_
  exact (((Below.refl w.heap.size w).drew).trans k).mono h.size

def RetWalk (g : Gram) (t : Tree) (n : Int) (w : World) (e : Ending) (w' : World) : Prop :=
  ∃ m er, e = .returned (.tuple #[.int .i64 m, .int .i64 er]) ∧ er = (visitE g t n).1 ∧ (er = 0 → m = (visitE g t n).2) ∧ Below w.heap.size w w'
def RwL (g : Gram) (A : Option Addr) (c : Nat) (ks : List Tree) (ss : List Sym) (n0 : Int) (tc : Array Value) (w : World) (nv i : Value) (wr : World) : Prop :=
  ∃ (k : Nat) (m : Int), k ≤ ks.length ∧ i = .int .i64 k ∧ nv = .int .i64 m ∧ 0 ≤ m ∧ m ≤ 5000 ∧ kidsE g ks ss n0 = kidsE g (ks.drop k) (ss.drop k) m ∧ Below w.heap.size w wr ∧ Blk' wr w.heap.size 38 #[.int .i64 g.terms, .int .i64 g.nons, .int .i64 g.start, .slice A g.rules.length c] ∧ Blk' wr (w.heap.size + 1) 27 tc

set_option maxRecDepth 100000 in
set_option maxHeartbeats 20000000 in
theorem rwalk_any (g : Gram) (c : Nat) (S Sk : Nat → Prop) (hlc : g.rules.length ≤ 1000) (hrr : ∀ q ∈ g.rules, q.right.length ≤ 1000) : ∀ (t : Tree) (A B : Option Addr) (d : Nat) (n : Int) (w : World), I64 t.rule → I64 t.term → t.kids.length ≤ d → d ≤ 9223372036854775807 → Els w Sk t.kids B → Els w S g.rules A → 0 ≤ n → n ≤ 5000 →
    Calls Try.prog 55 #[.agg #[.int .i64 g.terms, .int .i64 g.nons, .int .i64 g.start, .slice A g.rules.length c], .agg #[.int .i64 t.rule, .int .i64 t.term, .slice B t.kids.length d], .int .i64 n] w (RetWalk g t n w) := by
  refine Tree.ind ?_
  intro r t ks ih A B d n w hr ht hld hd hB hA hn0 hn1
  have IH := Lib.hid ih
  have hr' : I64 r := hr
  have ht' : I64 t := ht
  dsimp only [Tree.rule, Tree.term, Tree.kids] at *
  obtain ⟨gt, gn, gs, rs⟩ := g
  dsimp only at *
  have hb0 : Below w.heap.size w ((w.alloc (.cells #[.int .i64 gt, .int .i64 gn, .int .i64 gs, .slice A rs.length c] 38)).alloc (.cells #[.int .i64 r, .int .i64 t, .slice B ks.length d] 27)) := ((Below.refl _ _).alloc (Nat.le_refl _) _).alloc (by simp) _
  have HB0 := Lib.hid hb0
  have hG0 := (Blk'.new w 38 #[.int .i64 gt, .int .i64 gn, .int .i64 gs, .slice A rs.length c]).alloc (.cells #[.int .i64 r, .int .i64 t, .slice B ks.length d] 27)
  have hT0 := Blk'.new' (g := w.heap.size + 1) (w.alloc (.cells #[.int .i64 gt, .int .i64 gn, .int .i64 gs, .slice A rs.length c] 38)) 27 #[.int .i64 r, .int .i64 t, .slice B ks.length d] (by simp)
  have HG0 := Lib.hid hG0
  have HT0 := Lib.hid hT0
  have HBe := Lib.hid hB
  have HAe := Lib.hid hA
  have HRR := Lib.hid hrr
  have hkm : ks.length ≤ 9223372036854775807 := by omega
  have hrl9 : rs.length ≤ 9223372036854775807 := by omega
  clear ih hr ht hB hA hrr hb0 hG0 hT0
  go_enter Try.func55, Try.ntmps55
  by_cases h5 : 5000 ≤ n
  · have HE := Lib.hid (show (visitE ⟨gt, gn, gs, rs⟩ ⟨r, t, ks⟩ n).1 = 2 by unfold visitE; rw [if_pos h5])
    go_wp2
    go_ret2
    exact ⟨_, _, rfl, by rw [HE.out], (fun h => absurd h (by decide)), HB0.out⟩
  · have H5 := Lib.hid h5
    go_wp2_with fail
    refine (shape_any ⟨gt, gn, gs, rs⟩ A c S r t B d ks _ hrl9 hkm HRR.out (HAe.out.below HB0.out)).mono ?_
    rintro e w1 ⟨rfl, hb1⟩
    have HB1 := Lib.hid (bthen HB0.out hb1 (by simp; omega))
    have HG1 := Lib.hid (HG0.out.below hb1 HG0.out.lt)
    have hT1 := HT0.out.below hb1 HT0.out.lt
    have HT1 := Lib.hid hT1
    have t2 : w1.cell? ⟨w.heap.size + 1, 2, none⟩ = some (.slice B ks.length d) := hT1.cell 2
    have hz1 : w.heap.size + 1 < w1.heap.size := hT1.lt
    clear hb1 hT1 HB0 HG0 HT0
    cases hsh : shapeB ⟨gt, gn, gs, rs⟩ ⟨r, t, ks⟩
    · have HE := Lib.hid (visitE_bad (n := n) (by have := H5.out; omega) hsh)
      clear hsh h5
      go_wp2
      go_ret2
      exact ⟨_, _, rfl, by rw [HE.out], (fun h => absurd h (by decide)), HB1.out⟩
    · obtain ⟨ss, hE, hkl, hq⟩ := visitE_good (n := n) (by have := H5.out; omega) hsh
      dsimp only [Tree.kids, Tree.rule] at hE hkl hq
      have HE := Lib.hid hE
      have HQ := Lib.hid (And.intro hkl hq)
      have hn4 : n ≤ 4999 := by omega
      clear hsh h5 hE hkl hq
      go_wp2_with fail
      go_loopw [2, 25] (fun nv i wr => RwL ⟨gt, gn, gs, rs⟩ A c ks ss (n + 1) #[.int .i64 r, .int .i64 t, .slice B ks.length d] w nv i wr) (fun _ i _ => ks.length - (intOf i).toNat)
      case atStart => exact ⟨0, n + 1, Nat.zero_le _, rfl, rfl, by omega, by omega, rfl, HB1.out, HG1.out, HT1.out⟩
      case round =>
        obtain ⟨wo, hwo⟩ : ∃ wo : World, wo = wr := ⟨_, rfl⟩
        subst hwo
        obtain ⟨k, m, hk, rfl, rfl, hm0, hm5, hke, hbo, hGo, hTo⟩ := hrel
        dsimp only at hGo
        have HKe := Lib.hid hke
        have HBo := Lib.hid hbo
        have HGo := Lib.hid hGo
        have HTo := Lib.hid hTo
        have g0 : wo.cell? ⟨w.heap.size, 0, none⟩ = some (.int .i64 gt) := hGo.cell 0
        have g1 : wo.cell? ⟨w.heap.size, 1, none⟩ = some (.int .i64 gn) := hGo.cell 1
        have g2 : wo.cell? ⟨w.heap.size, 2, none⟩ = some (.int .i64 gs) := hGo.cell 2
        have g3 : wo.cell? ⟨w.heap.size, 3, none⟩ = some (.slice A rs.length c) := hGo.cell 3
        have hzo : w.heap.size + 1 < wo.heap.size := hTo.lt
        have hzo1 : w.heap.size < wo.heap.size := by omega
        clear hke hbo hGo hTo
        by_cases hlt : k < ks.length
        · obtain ⟨x, hx⟩ := get_some hlt
          obtain ⟨s, hs⟩ := get_some (show k < ss.length by have := HQ.out.1; omega)
          obtain ⟨hr00, q, hq, hqs⟩ := HQ.out.2 (by intro e; rw [e] at hlt; simp at hlt)
          subst hqs
          have hrl : r.toNat < rs.length := (List.getElem?_eq_some_iff.1 hq).1
          have hr11 : r < (rs.length : Int) := by omega
          have hqr := HRR.out q (List.mem_of_getElem? hq)
          obtain ⟨bk, ok, Ax, cx, rfl, hSk, hbk, hxi, hxt, hx1, hx2, hEx, kc0, kc1, kc2⟩ := (HBe.out.below HBo.out).tree hx
          have HDx := Lib.hid (And.intro (drop_cons hx) (drop_cons hs))
          have HXm := Lib.hid (List.mem_of_getElem? hx)
          have HXi := Lib.hid (And.intro hxi hxt)
          have hk0 : (0 : Int) ≤ (k : Int) := by omega
          have hk1 : (k : Int) < (ks.length : Int) := by omega
          have hba : Below wo.heap.size wo (wo.alloc (.cells #[.int .i64 x.rule, .int .i64 x.term, .slice Ax x.kids.length cx] 27)) := (Below.refl _ _).alloc (Nat.le_refl _) _
          have HEx := Lib.hid (hEx.below hba)
          have HBa := Lib.hid (bthen HBo.out hba HBo.out.size)
          have HGa := Lib.hid (HGo.out.below hba HGo.out.lt)
          have HTa := Lib.hid (HTo.out.below hba HTo.out.lt)
          have HXb := Lib.hid (Blk'.new wo 27 #[.int .i64 x.rule, .int .i64 x.term, .slice Ax x.kids.length cx])
          have HS9 := Lib.hid (And.intro hs hq)
          clear hx hs hba hEx hxi hxt hq
          go_wp2_with fail
          refine (IH.out x HXm.out A Ax cx m _ HXi.out.1 HXi.out.2 hx1 hx2 HEx.out (HAe.out.below HBa.out) hm0 hm5).mono ?_
          rintro e w3 ⟨m2, ev, rfl, hev, hm2, hb3⟩
          have hbd := visitE_bd ⟨gt, gn, gs, rs⟩ x m hm0 hm5
          have HB3 := Lib.hid (bthen HBa.out hb3 HBa.out.size)
          have HG3 := Lib.hid (HGa.out.below hb3 HGa.out.lt)
          have HT3 := Lib.hid (HTa.out.below hb3 HTa.out.lt)
          have HX3 := Lib.hid (HXb.out.below hb3 HXb.out.lt)
          have HEv := Lib.hid (And.intro hev hm2)
          clear hb3 hm2 g0 g1 g2 g3
          by_cases he0 : ev = 0
          · subst he0
            have hv0 : (visitE ⟨gt, gn, gs, rs⟩ x m).1 = 0 := hev.symm
            have hm2e : m2 = (visitE ⟨gt, gn, gs, rs⟩ x m).2 := HEv.out.2 rfl
            have hm20 : 0 ≤ m2 := by rw [hm2e]; exact hbd.1
            have hm25 : m2 ≤ 5000 := by rw [hm2e]; exact hbd.2.2.1 hv0
            have HV0 := Lib.hid (And.intro hv0 hm2e)
            obtain ⟨y, hy⟩ : ∃ y, y = rootS ⟨gt, gn, gs, rs⟩ x := ⟨_, rfl⟩
            have HY := Lib.hid hy
            have hA3 := HAe.out.below HB3.out
            obtain ⟨bq, oq, Aq, cq, rfl, hSb', hbs', hi', hrc', hcr', hEr', hc0', hc1'⟩ := hA3.rule HS9.out.2
            obtain ⟨bs, os, rfl, hSs, hbss, hsi, sc0, sc1⟩ := hEr'.sym HS9.out.1
            have G0 : w3.cell? ⟨w.heap.size, 0, none⟩ = some (.int .i64 gt) := HG3.out.cell 0
            have G1 : w3.cell? ⟨w.heap.size, 1, none⟩ = some (.int .i64 gn) := HG3.out.cell 1
            have G2 : w3.cell? ⟨w.heap.size, 2, none⟩ = some (.int .i64 gs) := HG3.out.cell 2
            have G3 : w3.cell? ⟨w.heap.size, 3, none⟩ = some (.slice (some ⟨bq, oq, none⟩) rs.length c) := HG3.out.cell 3
            have X0 : w3.cell? ⟨wo.heap.size, 0, none⟩ = some (.int .i64 x.rule) := HX3.out.cell 0
            have X1 : w3.cell? ⟨wo.heap.size, 1, none⟩ = some (.int .i64 x.term) := HX3.out.cell 1
            have X2 : w3.cell? ⟨wo.heap.size, 2, none⟩ = some (.slice Ax x.kids.length cx) := HX3.out.cell 2
            have T0 : w3.cell? ⟨w.heap.size + 1, 0, none⟩ = some (.int .i64 r) := HT3.out.cell 0
            have zG : w.heap.size < w3.heap.size := HG3.out.lt
            have zX : wo.heap.size < w3.heap.size := HX3.out.lt
            have zT : w.heap.size + 1 < w3.heap.size := HT3.out.lt
            have HRd := Lib.hid (show Els w3.drew S rs (some ⟨bq, oq, none⟩) from hA3.below ((Below.refl _ _).drew))
            have hkq : (k : Int) < (q.right.length : Int) := by have := HQ.out.1; omega
            clear hbd hEr' hi' hy hev hv0 hm2e hA3
            obtain ⟨st, sn⟩ := s
            dsimp only at hsi sc0 sc1
            by_cases hys : y = ⟨st, sn⟩
            · subst hys
              have HK2 := Lib.hid (show kidsE ⟨gt, gn, gs, rs⟩ ks q.right (n + 1) = kidsE ⟨gt, gn, gs, rs⟩ (ks.drop (k + 1)) (q.right.drop (k + 1)) m2 by
                rw [HKe.out, HDx.out.1, HDx.out.2, kidsE, if_neg (by rw [HV0.out.1]; simp), if_neg (by rw [← HY.out]; simp), ← HV0.out.2])
              have HY := Lib.hid HY.out.symm
              go_wp2_with fail
              go_region_held3 (fun w' => w'.cell? ⟨w.heap.size, 0, none⟩ = some (.int .i64 gt) ∧ w'.cell? ⟨w.heap.size, 1, none⟩ = some (.int .i64 gn) ∧ w'.cell? ⟨w.heap.size, 2, none⟩ = some (.int .i64 gs) ∧ w'.cell? ⟨w.heap.size, 3, none⟩ = some (.slice (some ⟨bq, oq, none⟩) rs.length c) ∧ w'.cell? ⟨wo.heap.size, 0, none⟩ = some (.int .i64 x.rule) ∧ w'.cell? ⟨wo.heap.size, 1, none⟩ = some (.int .i64 x.term) ∧ w'.cell? ⟨wo.heap.size, 2, none⟩ = some (.slice Ax x.kids.length cx) ∧ w'.cell? ⟨w.heap.size + 1, 0, none⟩ = some (.int .i64 r) ∧ w'.cell? ⟨bq, oq + r.toNat * 2 + 1, none⟩ = some (.slice (some ⟨bs, os, none⟩) q.right.length cq) ∧ w'.cell? ⟨bs, os + k * 2, none⟩ = some (.bool st) ∧ w'.cell? ⟨bs, os + k * 2 + 1, none⟩ = some (.int .i64 sn)) (go_keep)
                (first
                | (go_at_call 98; refine (top_y ⟨gt, gn, gs, rs⟩ (some ⟨bq, oq, none⟩) c S x Ax _ cx _ hrl9 HRd.out st sn HY.out).mono ?_; rintro e w4 ⟨rfl, hb4⟩; have H4 := Lib.hid hb4; have K0 := (hb4.cell (p := ⟨w.heap.size, 0, none⟩) zG).trans G0; have K1 := (hb4.cell (p := ⟨w.heap.size, 1, none⟩) zG).trans G1; have K2 := (hb4.cell (p := ⟨w.heap.size, 2, none⟩) zG).trans G2; have K3 := (hb4.cell (p := ⟨w.heap.size, 3, none⟩) zG).trans G3; have L0 := (hb4.cell (p := ⟨wo.heap.size, 0, none⟩) zX).trans X0; have L1 := (hb4.cell (p := ⟨wo.heap.size, 1, none⟩) zX).trans X1; have L2 := (hb4.cell (p := ⟨wo.heap.size, 2, none⟩) zX).trans X2; have M0 := (hb4.cell (p := ⟨w.heap.size + 1, 0, none⟩) zT).trans T0; have N0 := (hb4.cell (p := ⟨bq, oq + r.toNat * 2 + 1, none⟩) hbs').trans hc1'; have N1 := (hb4.cell (p := ⟨bs, os + k * 2, none⟩) hbss).trans sc0; have N2 := (hb4.cell (p := ⟨bs, os + k * 2 + 1, none⟩) hbss).trans sc1; clear hb4))
              all_goals
                go_wp2
                go_roundw
                case rel => exact ⟨k + 1, m2, hlt, by go_num, rfl, hm20, hm25, HK2.out, bdrew2 HB3.out H4.out, HG3.out.drew.below H4.out zG, HT3.out.drew.below H4.out zT⟩
                case measure => simp [intOf]; omega
            · obtain ⟨yt, yn⟩ := y
              have HE2 := Lib.hid (show (visitE ⟨gt, gn, gs, rs⟩ ⟨r, t, ks⟩ n).1 = 3 by
                rw [HE.out, HKe.out, HDx.out.1, HDx.out.2, kidsE, if_neg (by rw [HV0.out.1]; simp), if_pos (by rw [← HY.out]; exact hys)])
              have HY := Lib.hid HY.out.symm
              have HYs := Lib.hid hys
              clear hys
              cases yt <;> cases st
              · have hnq : (yn == sn) = false := beq_eq_false_iff_ne.2 (fun e => HYs.out (by rw [e]))
                go_wp2_with fail
                go_region_held3 (fun w' => w'.cell? ⟨w.heap.size, 0, none⟩ = some (.int .i64 gt) ∧ w'.cell? ⟨w.heap.size, 1, none⟩ = some (.int .i64 gn) ∧ w'.cell? ⟨w.heap.size, 2, none⟩ = some (.int .i64 gs) ∧ w'.cell? ⟨w.heap.size, 3, none⟩ = some (.slice (some ⟨bq, oq, none⟩) rs.length c) ∧ w'.cell? ⟨wo.heap.size, 0, none⟩ = some (.int .i64 x.rule) ∧ w'.cell? ⟨wo.heap.size, 1, none⟩ = some (.int .i64 x.term) ∧ w'.cell? ⟨wo.heap.size, 2, none⟩ = some (.slice Ax x.kids.length cx) ∧ w'.cell? ⟨w.heap.size + 1, 0, none⟩ = some (.int .i64 r) ∧ w'.cell? ⟨bq, oq + r.toNat * 2 + 1, none⟩ = some (.slice (some ⟨bs, os, none⟩) q.right.length cq) ∧ w'.cell? ⟨bs, os + k * 2, none⟩ = some (.bool false) ∧ w'.cell? ⟨bs, os + k * 2 + 1, none⟩ = some (.int .i64 sn)) (go_keep)
                  (first
                  | (go_at_call 98; refine (top_y ⟨gt, gn, gs, rs⟩ (some ⟨bq, oq, none⟩) c S x Ax _ cx _ hrl9 HRd.out false yn HY.out).mono ?_; rintro e w4 ⟨rfl, hb4⟩; have H4 := Lib.hid hb4; have K0 := (hb4.cell (p := ⟨w.heap.size, 0, none⟩) zG).trans G0; have K1 := (hb4.cell (p := ⟨w.heap.size, 1, none⟩) zG).trans G1; have K2 := (hb4.cell (p := ⟨w.heap.size, 2, none⟩) zG).trans G2; have K3 := (hb4.cell (p := ⟨w.heap.size, 3, none⟩) zG).trans G3; have L0 := (hb4.cell (p := ⟨wo.heap.size, 0, none⟩) zX).trans X0; have L1 := (hb4.cell (p := ⟨wo.heap.size, 1, none⟩) zX).trans X1; have L2 := (hb4.cell (p := ⟨wo.heap.size, 2, none⟩) zX).trans X2; have M0 := (hb4.cell (p := ⟨w.heap.size + 1, 0, none⟩) zT).trans T0; have N0 := (hb4.cell (p := ⟨bq, oq + r.toNat * 2 + 1, none⟩) hbs').trans hc1'; have N1 := (hb4.cell (p := ⟨bs, os + k * 2, none⟩) hbss).trans sc0; have N2 := (hb4.cell (p := ⟨bs, os + k * 2 + 1, none⟩) hbss).trans sc1; clear hb4))
                all_goals
                  go_wp2
                  go_ret2
                  exact ⟨_, _, rfl, by rw [HE2.out], (fun h => absurd h (by decide)), bdrew2 HB3.out H4.out⟩
              · go_wp2_with fail
                go_region_held3 (fun w' => w'.cell? ⟨w.heap.size, 0, none⟩ = some (.int .i64 gt) ∧ w'.cell? ⟨w.heap.size, 1, none⟩ = some (.int .i64 gn) ∧ w'.cell? ⟨w.heap.size, 2, none⟩ = some (.int .i64 gs) ∧ w'.cell? ⟨w.heap.size, 3, none⟩ = some (.slice (some ⟨bq, oq, none⟩) rs.length c) ∧ w'.cell? ⟨wo.heap.size, 0, none⟩ = some (.int .i64 x.rule) ∧ w'.cell? ⟨wo.heap.size, 1, none⟩ = some (.int .i64 x.term) ∧ w'.cell? ⟨wo.heap.size, 2, none⟩ = some (.slice Ax x.kids.length cx) ∧ w'.cell? ⟨w.heap.size + 1, 0, none⟩ = some (.int .i64 r) ∧ w'.cell? ⟨bq, oq + r.toNat * 2 + 1, none⟩ = some (.slice (some ⟨bs, os, none⟩) q.right.length cq) ∧ w'.cell? ⟨bs, os + k * 2, none⟩ = some (.bool true) ∧ w'.cell? ⟨bs, os + k * 2 + 1, none⟩ = some (.int .i64 sn)) (go_keep)
                  (first
                  | (go_at_call 98; refine (top_y ⟨gt, gn, gs, rs⟩ (some ⟨bq, oq, none⟩) c S x Ax _ cx _ hrl9 HRd.out false yn HY.out).mono ?_; rintro e w4 ⟨rfl, hb4⟩; have H4 := Lib.hid hb4; have K0 := (hb4.cell (p := ⟨w.heap.size, 0, none⟩) zG).trans G0; have K1 := (hb4.cell (p := ⟨w.heap.size, 1, none⟩) zG).trans G1; have K2 := (hb4.cell (p := ⟨w.heap.size, 2, none⟩) zG).trans G2; have K3 := (hb4.cell (p := ⟨w.heap.size, 3, none⟩) zG).trans G3; have L0 := (hb4.cell (p := ⟨wo.heap.size, 0, none⟩) zX).trans X0; have L1 := (hb4.cell (p := ⟨wo.heap.size, 1, none⟩) zX).trans X1; have L2 := (hb4.cell (p := ⟨wo.heap.size, 2, none⟩) zX).trans X2; have M0 := (hb4.cell (p := ⟨w.heap.size + 1, 0, none⟩) zT).trans T0; have N0 := (hb4.cell (p := ⟨bq, oq + r.toNat * 2 + 1, none⟩) hbs').trans hc1'; have N1 := (hb4.cell (p := ⟨bs, os + k * 2, none⟩) hbss).trans sc0; have N2 := (hb4.cell (p := ⟨bs, os + k * 2 + 1, none⟩) hbss).trans sc1; clear hb4))
                all_goals
                  go_wp2
                  go_ret2
                  exact ⟨_, _, rfl, by rw [HE2.out], (fun h => absurd h (by decide)), bdrew2 HB3.out H4.out⟩
              · go_wp2_with fail
                go_region_held3 (fun w' => w'.cell? ⟨w.heap.size, 0, none⟩ = some (.int .i64 gt) ∧ w'.cell? ⟨w.heap.size, 1, none⟩ = some (.int .i64 gn) ∧ w'.cell? ⟨w.heap.size, 2, none⟩ = some (.int .i64 gs) ∧ w'.cell? ⟨w.heap.size, 3, none⟩ = some (.slice (some ⟨bq, oq, none⟩) rs.length c) ∧ w'.cell? ⟨wo.heap.size, 0, none⟩ = some (.int .i64 x.rule) ∧ w'.cell? ⟨wo.heap.size, 1, none⟩ = some (.int .i64 x.term) ∧ w'.cell? ⟨wo.heap.size, 2, none⟩ = some (.slice Ax x.kids.length cx) ∧ w'.cell? ⟨w.heap.size + 1, 0, none⟩ = some (.int .i64 r) ∧ w'.cell? ⟨bq, oq + r.toNat * 2 + 1, none⟩ = some (.slice (some ⟨bs, os, none⟩) q.right.length cq) ∧ w'.cell? ⟨bs, os + k * 2, none⟩ = some (.bool false) ∧ w'.cell? ⟨bs, os + k * 2 + 1, none⟩ = some (.int .i64 sn)) (go_keep)
                  (first
                  | (go_at_call 98; refine (top_y ⟨gt, gn, gs, rs⟩ (some ⟨bq, oq, none⟩) c S x Ax _ cx _ hrl9 HRd.out true yn HY.out).mono ?_; rintro e w4 ⟨rfl, hb4⟩; have H4 := Lib.hid hb4; have K0 := (hb4.cell (p := ⟨w.heap.size, 0, none⟩) zG).trans G0; have K1 := (hb4.cell (p := ⟨w.heap.size, 1, none⟩) zG).trans G1; have K2 := (hb4.cell (p := ⟨w.heap.size, 2, none⟩) zG).trans G2; have K3 := (hb4.cell (p := ⟨w.heap.size, 3, none⟩) zG).trans G3; have L0 := (hb4.cell (p := ⟨wo.heap.size, 0, none⟩) zX).trans X0; have L1 := (hb4.cell (p := ⟨wo.heap.size, 1, none⟩) zX).trans X1; have L2 := (hb4.cell (p := ⟨wo.heap.size, 2, none⟩) zX).trans X2; have M0 := (hb4.cell (p := ⟨w.heap.size + 1, 0, none⟩) zT).trans T0; have N0 := (hb4.cell (p := ⟨bq, oq + r.toNat * 2 + 1, none⟩) hbs').trans hc1'; have N1 := (hb4.cell (p := ⟨bs, os + k * 2, none⟩) hbss).trans sc0; have N2 := (hb4.cell (p := ⟨bs, os + k * 2 + 1, none⟩) hbss).trans sc1; clear hb4))
                all_goals
                  go_wp2
                  go_ret2
                  exact ⟨_, _, rfl, by rw [HE2.out], (fun h => absurd h (by decide)), bdrew2 HB3.out H4.out⟩
              · have hnq : (yn == sn) = false := beq_eq_false_iff_ne.2 (fun e => HYs.out (by rw [e]))
                go_wp2_with fail
                go_region_held3 (fun w' => w'.cell? ⟨w.heap.size, 0, none⟩ = some (.int .i64 gt) ∧ w'.cell? ⟨w.heap.size, 1, none⟩ = some (.int .i64 gn) ∧ w'.cell? ⟨w.heap.size, 2, none⟩ = some (.int .i64 gs) ∧ w'.cell? ⟨w.heap.size, 3, none⟩ = some (.slice (some ⟨bq, oq, none⟩) rs.length c) ∧ w'.cell? ⟨wo.heap.size, 0, none⟩ = some (.int .i64 x.rule) ∧ w'.cell? ⟨wo.heap.size, 1, none⟩ = some (.int .i64 x.term) ∧ w'.cell? ⟨wo.heap.size, 2, none⟩ = some (.slice Ax x.kids.length cx) ∧ w'.cell? ⟨w.heap.size + 1, 0, none⟩ = some (.int .i64 r) ∧ w'.cell? ⟨bq, oq + r.toNat * 2 + 1, none⟩ = some (.slice (some ⟨bs, os, none⟩) q.right.length cq) ∧ w'.cell? ⟨bs, os + k * 2, none⟩ = some (.bool true) ∧ w'.cell? ⟨bs, os + k * 2 + 1, none⟩ = some (.int .i64 sn)) (go_keep)
                  (first
                  | (go_at_call 98; refine (top_y ⟨gt, gn, gs, rs⟩ (some ⟨bq, oq, none⟩) c S x Ax _ cx _ hrl9 HRd.out true yn HY.out).mono ?_; rintro e w4 ⟨rfl, hb4⟩; have H4 := Lib.hid hb4; have K0 := (hb4.cell (p := ⟨w.heap.size, 0, none⟩) zG).trans G0; have K1 := (hb4.cell (p := ⟨w.heap.size, 1, none⟩) zG).trans G1; have K2 := (hb4.cell (p := ⟨w.heap.size, 2, none⟩) zG).trans G2; have K3 := (hb4.cell (p := ⟨w.heap.size, 3, none⟩) zG).trans G3; have L0 := (hb4.cell (p := ⟨wo.heap.size, 0, none⟩) zX).trans X0; have L1 := (hb4.cell (p := ⟨wo.heap.size, 1, none⟩) zX).trans X1; have L2 := (hb4.cell (p := ⟨wo.heap.size, 2, none⟩) zX).trans X2; have M0 := (hb4.cell (p := ⟨w.heap.size + 1, 0, none⟩) zT).trans T0; have N0 := (hb4.cell (p := ⟨bq, oq + r.toNat * 2 + 1, none⟩) hbs').trans hc1'; have N1 := (hb4.cell (p := ⟨bs, os + k * 2, none⟩) hbss).trans sc0; have N2 := (hb4.cell (p := ⟨bs, os + k * 2 + 1, none⟩) hbss).trans sc1; clear hb4))
                all_goals
                  go_wp2
                  go_ret2
                  exact ⟨_, _, rfl, by rw [HE2.out], (fun h => absurd h (by decide)), bdrew2 HB3.out H4.out⟩
          · have HE2 := Lib.hid (show (visitE ⟨gt, gn, gs, rs⟩ ⟨r, t, ks⟩ n).1 = ev by
              rw [HE.out, HKe.out, HDx.out.1, HDx.out.2, kidsE, if_pos (by rw [← HEv.out.1]; exact he0), ← HEv.out.1])
            have he0' : (ev != 0) = true := by simpa using he0
            have HEn := Lib.hid he0
            clear he0 hbd hev
            go_wp2
            go_ret2
            exact ⟨_, _, rfl, HE2.out.symm, (fun h => absurd h HEn.out), HB3.out⟩
        · have HE2 := Lib.hid (show visitE ⟨gt, gn, gs, rs⟩ ⟨r, t, ks⟩ n = (0, m) by
            rw [HE.out, HKe.out, List.drop_of_length_le (by omega)]
            cases (ss.drop k) <;> rfl)
          go_wp2
          go_ret2
          exact ⟨_, _, rfl, by rw [HE2.out], (fun _ => by rw [HE2.out]), HBo.out⟩

set_option maxRecDepth 100000 in
theorem treeErr_any (g : Gram) (A : Option Addr) (c : Nat) (Sr S : Nat → Prop) (t : Tree) (B : Option Addr) (d : Nat) (w : World) (hlc : g.rules.length ≤ 1000) (hrr : ∀ q ∈ g.rules, q.right.length ≤ 1000) (hA : Els w Sr g.rules A) (hr : I64 t.rule) (ht : I64 t.term) (hld : t.kids.length ≤ d) (hd : d ≤ 9223372036854775807) (hB : Els w S t.kids B) :
    Calls Try.prog 16 #[.agg #[.int .i64 g.terms, .int .i64 g.nons, .int .i64 g.start, .slice A g.rules.length c], .agg #[.int .i64 t.rule, .int .i64 t.term, .slice B t.kids.length d]] w
      fun e w' => e = .returned (.int .i64 (treeE g t)) ∧ Below w.heap.size w w' := by
  have hb0 : ∀ o1 o2 : Obj, Below w.heap.size w ((w.alloc o1).alloc o2) := fun o1 o2 => ((Below.refl _ _).alloc (Nat.le_refl _) _).alloc (by simp) _
  have HB0 := Lib.hid hb0
  have HA := Lib.hid (fun o1 o2 => hA.below (hb0 o1 o2))
  have HBt := Lib.hid (fun o1 o2 => hB.below (hb0 o1 o2))
  have HR := Lib.hid (And.intro hrr (And.intro hr ht))
  clear hb0 hA hB hrr hr ht
  go_enter Try.func16, Try.ntmps16
  go_wp2_with fail
  refine (rwalk_any g c Sr S hlc HR.out.1 t A B d 0 _ HR.out.2.1 HR.out.2.2 hld hd (HBt.out _ _) (HA.out _ _) (by omega) (by omega)).mono ?_
  rintro e w2 ⟨m, er, rfl, her, _, hb2⟩
  have HZ := Lib.hid (bthen (HB0.out _ _) hb2 (by simp; omega))
  have HE := Lib.hid her
  clear hb2 her
  go_wp2
  go_ret
  exact ⟨ret_int HE.out, HZ.out⟩
end Go.Proofs.Ytlbhaegdcpacpaa
