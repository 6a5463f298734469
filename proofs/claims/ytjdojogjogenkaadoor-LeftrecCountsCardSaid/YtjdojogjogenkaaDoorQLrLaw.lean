/- Plain: leftrec.There and Back are inverse to each other. No program is named here. -/
import Derived.Test.YtjdojogjogenkaaDoorQLrV
import Derived.Test.YtjdojogjogenkaaDoorQp1
namespace Go.Proofs.YtjdojogjogenkaaDoor
open Go.RowKit
set_option linter.unusedVariables false
section
variable {g : Gram} {n : Nat}
theorem ruleAt_of {i : Nat} {q : Rule} (h : g.rules[i]? = some q) : ruleAt g (i : Int) = q := by
 unfold ruleAt
 rw [Int.toNat_natCast, List.getD_eq_getElem?_getD, h]
 rfl
theorem tlT_of {i : Nat} {q : Rule} (h : g.rules[i]? = some q) : tlT g n (i : Int) = tailI g n q.left.toNat := by
 unfold tlT
 rw [ruleAt_of h]
theorem tail_ge {a : Nat} (h : 0 ≤ tailI g n a) : (n : Int) ≤ tailI g n a := by
 rcases (tailI_rng (g := g) (n := n) (k := a)) with h1 | h1 <;> omega
theorem tail_has {a : Nat} (h : 0 ≤ tailI g n a) : hasRec g a = true ∧ tailI g n a = ((n + cntRec g a : Nat) : Int) := by
 unfold tailI at h ⊢
 split at h
 ·rename_i e
  exact ⟨e, by rw [if_pos e]⟩
 ·omega
theorem tail_inj {a b : Nat} (h : 0 ≤ tailI g n a) (e : tailI g n a = tailI g n b) : a = b := by
 obtain ⟨h1, h2⟩ := tail_has h
 obtain ⟨h3, h4⟩ := tail_has (g := g) (n := n) (a := b) (by omega)
 have h5 : cntRec g a = cntRec g b := by omega
 rcases Nat.lt_trichotomy a b with h6 | h6 | h6
 ·have h7 := cntRec_mono g (show a + 1 ≤ b from h6)
  rw [cntRec_hit h1] at h7
  omega
 ·exact h6
 ·have h7 := cntRec_mono g (show b + 1 ≤ a from h6)
  rw [cntRec_hit h3] at h7
  omega
theorem endT_vt {a : Nat} (ha : a < n) (h : 0 ≤ tailI g n a) : vt (strG g n) (endT g n (tailI g n a)) ⟨false, tailI g n a⟩ := by
 obtain ⟨h1, h2⟩ := tail_has h
 have h3 := cntRec_mono g (show a + 1 ≤ n from ha)
 rw [cntRec_hit h1] at h3
 have e : (g.rules.length : Int) + tailI g n a - n = ((g.rules.length + cntRec g a : Nat) : Int) := by omega
 unfold endT vt
 rw [if_neg (by simp), e]
 refine ⟨rfl, by omega, ⟨((n + cntRec g a : Nat) : Int), []⟩, ?_, h2.symm, by simp [vts]⟩
 rw [Int.toNat_natCast]
 show (g.rules.map (strR g n) ++ endR n (cntRec g n))[g.rules.length + cntRec g a]? = _
 rw [List.getElem?_append_right (by simp), List.length_map, Nat.add_sub_cancel_left]
 unfold endR
 rw [List.getElem?_map, List.getElem?_range (by omega)]
 rfl
theorem recB_cons {q : Rule} (h : recB q = true) : q.right = ⟨false, q.left⟩ :: q.right.drop 1 := by
 unfold recB at h
 have h := of_decide_eq_true h
 cases hq : q.right with
 | nil => rw [hq] at h; simp at h
 | cons a b =>
  rw [hq] at h
  simp only [List.getElem?_cons_zero, Option.some.injEq] at h
  rw [h]
  rfl
theorem vtSomeLr {t : Tree} {l : Int} (h : vt g t ⟨false, l⟩) : ∃ (i : Nat) (q : Rule) (ks : List Tree), t = ⟨(i : Int), 0, ks⟩ ∧ g.rules[i]? = some q ∧ q.left = l ∧ vts g ks q.right := by
 obtain ⟨r, t, ks⟩ := t
 unfold vt at h
 rw [if_neg (by simp)] at h
 obtain ⟨rfl, h0, q, h1, h2, h3⟩ := h
 exact ⟨r.toNat, q, ks, by rw [Int.toNat_of_nonneg h0], h1, h2, h3⟩
theorem vtMkLr {i : Nat} {q : Rule} {ks : List Tree} (h : g.rules[i]? = some q) (hk : vts g ks q.right) : vt g ⟨(i : Int), 0, ks⟩ ⟨false, q.left⟩ := by
 unfold vt
 rw [if_neg (by simp)]
 exact ⟨rfl, by omega, q, by rw [Int.toNat_natCast]; exact h, rfl, hk⟩
theorem vtTermLr {t : Tree} {s : Sym} (h : vt g t s) (hs : s.term = true) : t = ⟨-1, s.n, []⟩ := by
 obtain ⟨r, t, ks⟩ := t
 unfold vt at h
 rw [if_pos hs] at h
 obtain ⟨rfl, rfl, rfl⟩ := h
 rfl
theorem vtLeafLr {s : Sym} (hs : s.term = true) : vt g ⟨-1, s.n, []⟩ s := by
 unfold vt
 rw [if_pos hs]
 exact ⟨rfl, rfl, rfl⟩
theorem bkX_end {a : Nat} (o : Tree) (h : 0 ≤ tailI g n a) : bkX g n o (endT g n (tailI g n a)) = o := by
 have := tail_ge h
 unfold endT
 rw [bkX_eq, if_neg (by omega)]
theorem yieldNnLr {r t : Int} {ks : List Tree} (h : 0 ≤ r) : yieldT ⟨r, t, ks⟩ = yields ks := by
 rw [yieldT, if_neg (by omega)]
theorem yieldsOneLr (e : Tree) : yields [e] = yieldT e := by simp [yields]
theorem nodesMkLr (r t : Int) (ks : List Tree) : nodesT ⟨r, t, ks⟩ = 1 + nodesL ks := by rw [nodesT]
theorem nodesOneLr (e : Tree) : nodesL [e] = nodesT e := by simp [nodesL]
def ThP (g : Gram) (n : Nat) (t : Tree) : Prop :=
 (∀ s : Sym, vt g t s → (s.term = true ∨ s.n < (n : Int)) → vt (strG g n) (thT g n t) s ∧ bkT g n (thT g n t) = t ∧ yieldT (thT g n t) = yieldT t ∧ nodesT (thT g n t) ≤ 2 * nodesT t) ∧
 (∀ (l : Int) (e : Tree), vt g t ⟨false, l⟩ → 0 ≤ tailI g n l.toNat → vt (strG g n) e ⟨false, tailI g n l.toNat⟩ →
  vt (strG g n) (thS g n t e) ⟨false, l⟩ ∧ bkT g n (thS g n t e) = bkX g n t e ∧ yieldT (thS g n t e) = yieldT t ++ yieldT e ∧ nodesT (thS g n t e) + 1 ≤ 2 * nodesT t + nodesT e)
theorem thL_law : ∀ (ks : List Tree) (ss : List Sym), (∀ k ∈ ks, ThP g n k) → (∀ s ∈ ss, s.term = true ∨ s.n < (n : Int)) → vts g ks ss →
  vts (strG g n) (thL g n ks) ss ∧ bkL g n (thL g n ks) = ks ∧ yields (thL g n ks) = yields ks ∧ nodesL (thL g n ks) ≤ 2 * nodesL ks
 | [], [], _, _, _ => by simp [thL, bkL, vts, yields, nodesL]
 | [], _ :: _, _, _, h => by simp [vts] at h
 | _ :: _, [], _, _, h => by simp [vts] at h
 | k :: ks, s :: ss, hp, hs, h => by
  simp only [vts] at h
  obtain ⟨a1, a2, a3, a4⟩ := (hp k (List.mem_cons_self ..)).1 s h.1 (hs s (List.mem_cons_self ..))
  obtain ⟨b1, b2, b3, b4⟩ := thL_law ks ss (fun q hq => hp q (List.mem_cons_of_mem _ hq)) (fun q hq => hs q (List.mem_cons_of_mem _ hq)) h.2
  simp only [thL, vts, bkL, yields, nodesL, a2, b2, a3, b3]
  exact ⟨⟨a1, b1⟩, trivial, trivial, by omega⟩
theorem nodesMemLr : ∀ {ks : List Tree} {k : Tree}, k ∈ ks → nodesT k ≤ nodesL ks
 | x :: ks, k, h => by
  rw [nodesL]
  rcases List.mem_cons.1 h with rfl | h
  ·omega
  ·have := nodesMemLr h; omega
theorem th_law (hv : ValidG g) (hgn : g.nons = (n : Int)) : ∀ (N : Nat) (t : Tree), nodesT t ≤ N → ThP g n t
 | 0, ⟨r, t, ks⟩, h => by rw [nodesT] at h; omega
 | N + 1, t, h => by
  have H2 : ∀ (l : Int) (e : Tree), vt g t ⟨false, l⟩ → 0 ≤ tailI g n l.toNat → vt (strG g n) e ⟨false, tailI g n l.toNat⟩ →
    vt (strG g n) (thS g n t e) ⟨false, l⟩ ∧ bkT g n (thS g n t e) = bkX g n t e ∧ yieldT (thS g n t e) = yieldT t ++ yieldT e ∧ nodesT (thS g n t e) + 1 ≤ 2 * nodesT t + nodesT e := by
   intro l e ht hl he
   obtain ⟨i, q, ks, rfl, hq, hql, hk⟩ := vtSomeLr ht
   rw [nodesMkLr] at h
   have hqm := List.mem_of_getElem? hq
   have htl : tlT g n (i : Int) = tailI g n l.toNat := by rw [tlT_of hq, hql]
   have hst : strR g n q = if recB q then ⟨tailI g n l.toNat, q.right.drop 1 ++ [⟨false, tailI g n l.toNat⟩]⟩ else ⟨q.left, q.right ++ [⟨false, tailI g n l.toNat⟩]⟩ := by
    unfold strR
    rw [hql, if_neg (by omega)]
   have ho := out_lt (n := n) hq
   rw [thS_eq, ruleAt_of hq]
   by_cases hr : recB q = true
   ·rw [if_pos hr] at hst ⊢
    have hrc := recB_cons hr
    rw [hrc] at hk
    cases ks with
    | nil => simp [vts] at hk
    | cons k ks =>
     simp only [vts] at hk
     rw [nodesL] at h
     have hi := th_law hv hgn N
     obtain ⟨b1, b2, b3, b4⟩ := thL_law ks (q.right.drop 1) (fun x hx => hi x (by have := nodesMemLr hx; omega)) (fun s hs => sym_old hv hgn hqm (List.mem_of_mem_drop hs)) hk.2
     rw [thH_cons]
     obtain ⟨e', he'⟩ : ∃ e', e' = (⟨(i : Int), 0, thL g n ks ++ [e]⟩ : Tree) := ⟨_, rfl⟩
     have hv' : vt (strG g n) e' ⟨false, tailI g n l.toNat⟩ := by
      rw [hst] at ho
      have := vtMkLr ho (vts_snoc' b1 he)
      rw [he']
      exact this
     rw [← he']
     have hkl := hk.1
     rw [hql] at hkl
     obtain ⟨c1, c2, c3, c4⟩ := (hi k (by omega)).2 l e' hkl hl hv'
     refine ⟨c1, ?_, ?_, ?_⟩
     ·rw [c2, he', bkX_eq, Int.toNat_natCast, if_pos (List.getElem?_eq_some_iff.1 hq).1, bkW_snoc, b2]
      rfl
     ·rw [c3, he', yieldNnLr (by omega), yieldNnLr (by omega), yields_append, b3, yieldsOneLr, yields, List.append_assoc]
     ·have c5 : nodesT e' = 1 + (nodesL (thL g n ks) + nodesT e) := by rw [he', nodesMkLr, nodesL_append, nodesOneLr]
      rw [nodesMkLr, nodesL]
      omega
   ·rw [if_neg hr] at hst ⊢
    obtain ⟨b1, b2, b3, b4⟩ := thL_law ks q.right (fun x hx => th_law hv hgn N x (by have := nodesMemLr hx; omega)) (fun s hs => sym_old hv hgn hqm hs) hk
    refine ⟨?_, ?_, ?_, ?_⟩
    ·rw [hst] at ho
     have := vtMkLr ho (vts_snoc' b1 he)
     dsimp only at this
     rw [hql] at this
     exact this
    ·rw [bkT_eq, if_neg (by omega), htl, if_neg (by omega), bkW_snoc, b2]
     rfl
    ·rw [yieldNnLr (by omega), yieldNnLr (by omega), yields_append, b3, yieldsOneLr]
    ·rw [nodesMkLr, nodesMkLr, nodesL_append, nodesOneLr]
     omega
  refine ⟨?_, H2⟩
  intro s ht hs
  by_cases hst : s.term = true
  ·have e := vtTermLr ht hst
   subst e
   rw [thT_eq, if_pos (by omega)]
   exact ⟨vtLeafLr hst, by rw [bkT_eq, if_pos (by omega)], rfl, by omega⟩
  ·obtain ⟨st, l⟩ := s
   have e : st = false := by simpa using hst
   subst e
   obtain ⟨i, q, ks, rfl, hq, hql, hk⟩ := vtSomeLr ht
   have hqm := List.mem_of_getElem? hq
   have htl : tlT g n (i : Int) = tailI g n l.toNat := by rw [tlT_of hq, hql]
   have hln : l.toNat < n := by
    have := (hv.rules q hqm).1
    have := (hv.rules q hqm).2.1
    omega
   rw [thT_eq, if_neg (by omega), htl]
   by_cases ht0 : tailI g n l.toNat < 0
   ·rw [if_pos ht0]
    rw [nodesMkLr] at h
    obtain ⟨b1, b2, b3, b4⟩ := thL_law ks q.right (fun x hx => th_law hv hgn N x (by have := nodesMemLr hx; omega)) (fun s hs => sym_old hv hgn hqm hs) hk
    refine ⟨?_, ?_, ?_, ?_⟩
    ·have ho := out_lt (n := n) hq
     have e : strR g n q = q := by
      unfold strR
      rw [hql, if_pos ht0]
     rw [e] at ho
     have := vtMkLr ho b1
     rw [hql] at this
     exact this
    ·rw [bkT_eq, if_neg (by omega), htl, if_pos ht0, b2]
    ·rw [yieldNnLr (by omega), yieldNnLr (by omega), b3]
    ·rw [nodesMkLr, nodesMkLr]; omega
   ·rw [if_neg ht0]
    obtain ⟨c1, c2, c3, c4⟩ := H2 l _ ht (by omega) (endT_vt hln (by omega))
    refine ⟨c1, ?_, ?_, ?_⟩
    ·rw [c2, bkX_end _ (by omega)]
    ·have e : yieldT (endT g n (tailI g n l.toNat)) = [] := by
      have := tail_ge (g := g) (n := n) (a := l.toNat) (by omega)
      unfold endT
      rw [yieldNnLr (by omega), yields]
     rw [c3, e, List.append_nil]
    ·have e : nodesT (endT g n (tailI g n l.toNat)) = 1 := by
      unfold endT
      rw [nodesMkLr, nodesL]
     omega
def BkP (g : Gram) (n : Nat) (u : Tree) : Prop :=
 (∀ s : Sym, vt (strG g n) u s → (s.term = true ∨ s.n < (n : Int)) → vt g (bkT g n u) s ∧ thT g n (bkT g n u) = u ∧ nodesT (bkT g n u) ≤ nodesT u) ∧
 (∀ (l : Int) (o : Tree), vt (strG g n) u ⟨false, tailI g n l.toNat⟩ → 0 ≤ tailI g n l.toNat → vt g o ⟨false, l⟩ →
  vt g (bkX g n o u) ⟨false, l⟩ ∧ thT g n (bkX g n o u) = thS g n o u ∧ nodesT (bkX g n o u) ≤ nodesT o + nodesT u)
theorem bkL_law : ∀ (ks : List Tree) (ss : List Sym), (∀ k ∈ ks, BkP g n k) → (∀ s ∈ ss, s.term = true ∨ s.n < (n : Int)) → vts (strG g n) ks ss →
  vts g (bkL g n ks) ss ∧ thL g n (bkL g n ks) = ks ∧ nodesL (bkL g n ks) ≤ nodesL ks
 | [], [], _, _, _ => by simp [thL, bkL, vts, nodesL]
 | [], _ :: _, _, _, h => by simp [vts] at h
 | _ :: _, [], _, _, h => by simp [vts] at h
 | k :: ks, s :: ss, hp, hs, h => by
  simp only [vts] at h
  obtain ⟨a1, a2, a4⟩ := (hp k (List.mem_cons_self ..)).1 s h.1 (hs s (List.mem_cons_self ..))
  obtain ⟨b1, b2, b4⟩ := bkL_law ks ss (fun q hq => hp q (List.mem_cons_of_mem _ hq)) (fun q hq => hs q (List.mem_cons_of_mem _ hq)) h.2
  simp only [thL, vts, bkL, nodesL, a2, b2]
  exact ⟨⟨a1, b1⟩, trivial, by omega⟩
theorem bk_law (hv : ValidG g) (hgn : g.nons = (n : Int)) : ∀ (N : Nat) (u : Tree), nodesT u ≤ N → BkP g n u
 | 0, ⟨r, t, ks⟩, h => by rw [nodesT] at h; omega
 | N + 1, ⟨r, t, ks⟩, h => by
  have hi := bk_law hv hgn N
  rw [nodesMkLr] at h
  refine ⟨?_, ?_⟩
  ·intro s ht hs
   by_cases hst : s.term = true
   ·have e := vtTermLr ht hst
    rw [e, bkT_eq, if_pos (by omega)]
    exact ⟨vtLeafLr hst, by rw [thT_eq, if_pos (by omega)], Nat.le_refl _⟩
   ·have hr : ¬ r < 0 := by
     unfold vt at ht
     rw [if_neg hst] at ht
     omega
    obtain ⟨rfl, hs0, i, q, rfl, hq, hql, hcs⟩ := vtOut_node hv hgn ht hs hr
    obtain ⟨st, l⟩ := s
    dsimp only at hs0 hql
    subst hs0
    have hqm := List.mem_of_getElem? hq
    rw [bkT_eq, if_neg hr, tlT_of hq]
    rcases hcs with ⟨h0, hk⟩ | ⟨h0, hrec, ks', x, rfl, hk, hx⟩
    ·rw [if_pos h0]
     obtain ⟨b1, b2, b4⟩ := bkL_law ks q.right (fun x hx => hi x (by have := nodesMemLr hx; omega)) (fun s hs => sym_old hv hgn hqm hs) hk
     refine ⟨hql ▸ vtMkLr hq b1, ?_, ?_⟩
     ·rw [thT_eq, if_neg hr, tlT_of hq, if_pos h0, b2]
     ·rw [nodesMkLr, nodesMkLr]; omega
    ·rw [if_neg (by omega), bkW_snoc, List.nil_append]
     rw [nodesL_append, nodesOneLr] at h
     obtain ⟨b1, b2, b4⟩ := bkL_law ks' q.right (fun x hx => hi x (by have := nodesMemLr hx; omega)) (fun s hs => sym_old hv hgn hqm hs) hk
     obtain ⟨c1, c2, c3⟩ := (hi x (by omega)).2 q.left ⟨(i : Int), 0, bkL g n ks'⟩ hx h0 (vtMkLr hq b1)
     refine ⟨hql ▸ c1, ?_, ?_⟩
     ·rw [c2, thS_eq, ruleAt_of hq, if_neg (by rw [hrec]; simp), b2]
     ·rw [nodesMkLr, nodesL_append, nodesOneLr]
      rw [nodesMkLr] at c3
      omega
  ·intro l o ht hl ho
   obtain ⟨rfl, i, rfl, hcs⟩ := vtOut_tail hv hgn ht (tail_ge hl)
   rw [bkX_eq, Int.toNat_natCast]
   rcases hcs with ⟨h1, h2, rfl, hk⟩ | ⟨q, hq, hrec, hqk, ks', x, rfl, hk, hx⟩
   ·rw [if_neg (by omega)]
    refine ⟨ho, ?_, by omega⟩
    obtain ⟨j, q, ks, rfl, hq, hql, hkk⟩ := vtSomeLr ho
    rw [thT_eq, if_neg (by omega), tlT_of hq, hql, if_neg (by omega)]
    have e : endT g n (tailI g n l.toNat) = ⟨(i : Int), 0, []⟩ := by
     unfold endT
     have : (g.rules.length : Int) + tailI g n l.toNat - n = (i : Int) := by omega
     rw [this]
    rw [e]
   ·have hqm := List.mem_of_getElem? hq
    rw [if_pos (List.getElem?_eq_some_iff.1 hq).1, bkW_snoc]
    rw [nodesL_append, nodesOneLr] at h
    obtain ⟨b1, b2, b4⟩ := bkL_law ks' (q.right.drop 1) (fun x hx => hi x (by have := nodesMemLr hx; omega)) (fun s hs => sym_old hv hgn hqm (List.mem_of_mem_drop hs)) hk
    have hql : q.left = l := by
     have e := tail_inj (g := g) (n := n) (by omega) hqk
     obtain ⟨j, q2, ks2, _, hq2, hql2, _⟩ := vtSomeLr ho
     have h5 := (hv.rules q2 (List.mem_of_getElem? hq2)).1
     have h6 := (hv.rules q hqm).1
     omega
    have hrc := recB_cons hrec
    have ho2 : vt g ⟨(i : Int), 0, o :: bkL g n ks'⟩ ⟨false, l⟩ := by
     rw [← hql]
     refine vtMkLr hq ?_
     rw [hrc]
     simp only [vts]
     exact ⟨by rw [hql]; exact ho, b1⟩
    obtain ⟨c1, c2, c3⟩ := (hi x (by omega)).2 l ⟨(i : Int), 0, o :: bkL g n ks'⟩ hx hl ho2
    refine ⟨c1, ?_, ?_⟩
    ·show thT g n (bkX g n ⟨(i : Int), 0, o :: bkL g n ks'⟩ x) = _
     rw [c2, thS_eq, ruleAt_of hq, if_pos hrec, thH_cons, b2]
    ·show nodesT (bkX g n ⟨(i : Int), 0, o :: bkL g n ks'⟩ x) ≤ _
     rw [nodesMkLr, nodesL_append, nodesOneLr]
     rw [nodesMkLr, nodesL] at c3
     omega
end
end Go.Proofs.YtjdojogjogenkaaDoor
