/- Plain: trees of the grammar without left recursion. No program is named here. -/
import Derived.Test.YtjdojogjogenkaaDoorQLrP
import Derived.Test.YtjdojogjogenkaaDoorQw1
namespace Go.Proofs.YtjdojogjogenkaaDoor
open Go.RowKit
set_option linter.unusedVariables false
section
variable {g : Gram} {n : Nat}
theorem out_lt {i : Nat} {q : Rule} (h : g.rules[i]? = some q) : (strG g n).rules[i]? = some (strR g n q) := by
 have hl := (List.getElem?_eq_some_iff.1 h).1
 show (g.rules.map (strR g n) ++ endR n (cntRec g n))[i]? = _
 rw [List.getElem?_append_left (by simpa using hl), List.getElem?_map, h]
 rfl
theorem out_ge {i : Nat} {r : Rule} (h : (strG g n).rules[i]? = some r) (hi : g.rules.length ≤ i) : r = ⟨((n + (i - g.rules.length) : Nat) : Int), []⟩ ∧ i - g.rules.length < cntRec g n := by
 have h : (g.rules.map (strR g n) ++ endR n (cntRec g n))[i]? = some r := h
 rw [List.getElem?_append_right (by simpa using hi), List.length_map] at h
 have hl := (List.getElem?_eq_some_iff.1 h).1
 rw [endR_len] at hl
 unfold endR at h
 rw [List.getElem?_map, List.getElem?_range hl] at h
 simp at h
 exact ⟨h.symm, hl⟩
theorem vts_tail : ∀ {ks : List Tree} {ss : List Sym} {s : Sym}, vts g ks (ss ++ [s]) → ∃ ks' x, ks = ks' ++ [x] ∧ vts g ks' ss ∧ vt g x s
 | [], ss, s, h => by cases ss <;> simp [vts] at h
 | k :: ks, [], s, h => by
  simp only [List.nil_append, vts] at h
  cases ks with
  | nil => exact ⟨[], k, rfl, by simp [vts], h.1⟩
  | cons a b => simp [vts] at h
 | k :: ks, a :: ss, s, h => by
  simp only [List.cons_append, vts] at h
  obtain ⟨ks', x, rfl, h1, h2⟩ := vts_tail h.2
  exact ⟨k :: ks', x, rfl, by simp only [vts]; exact ⟨h.1, h1⟩, h2⟩
theorem vts_snoc' : ∀ {ks : List Tree} {ss : List Sym} {k : Tree} {s : Sym}, vts g ks ss → vt g k s → vts g (ks ++ [k]) (ss ++ [s])
 | [], [], k, s, _, h => by simp only [List.nil_append, vts]; exact ⟨h, trivial⟩
 | [], _ :: _, _, _, h, _ => by simp [vts] at h
 | _ :: _, [], _, _, h, _ => by simp [vts] at h
 | x :: ks, y :: ss, k, s, h, h2 => by
  simp only [vts] at h
  simp only [List.cons_append, vts]
  exact ⟨h.1, vts_snoc' h.2 h2⟩
theorem vtOut_node (hv : ValidG g) (hgn : g.nons = (n : Int)) {r t : Int} {ks : List Tree} {s : Sym} (h : vt (strG g n) ⟨r, t, ks⟩ s) (hs : s.term = true ∨ s.n < (n : Int)) (hr : ¬ r < 0) :
  t = 0 ∧ s.term = false ∧ ∃ (i : Nat) (q : Rule), r = (i : Int) ∧ g.rules[i]? = some q ∧ q.left = s.n ∧ ((tailI g n q.left.toNat < 0 ∧ vts (strG g n) ks q.right) ∨
   (0 ≤ tailI g n q.left.toNat ∧ recB q = false ∧ ∃ ks' x, ks = ks' ++ [x] ∧ vts (strG g n) ks' q.right ∧ vt (strG g n) x ⟨false, tailI g n q.left.toNat⟩)) := by
 unfold vt at h
 by_cases hst : s.term = true
 ·rw [if_pos hst] at h
  omega
 ·rw [if_neg hst] at h
  have hsn : s.n < (n : Int) := hs.resolve_left hst
  obtain ⟨rfl, h0, r', hq, hl, hk⟩ := h
  refine ⟨rfl, by simpa using hst, r.toNat, ?_⟩
  rcases Nat.lt_or_ge r.toNat g.rules.length with hlt | hge
  ·obtain ⟨q, hq2⟩ := get_some hlt
   rw [out_lt hq2] at hq
   injection hq with hq
   have hqv := hv.rules q (List.mem_of_getElem? hq2)
   refine ⟨q, by omega, hq2, ?_⟩
   unfold strR at hq
   split at hq
   ·rename_i ht
    subst hq
    exact ⟨hl, .inl ⟨ht, hk⟩⟩
   ·rename_i ht
    have ht2 : (n : Int) ≤ tailI g n q.left.toNat := by rcases (tailI_rng (g := g) (n := n) (k := q.left.toNat)) with h | h <;> omega
    split at hq
    ·subst hq
     dsimp only at hl
     omega
    ·rename_i hrec
     subst hq
     dsimp only at hl hk
     exact ⟨hl, .inr ⟨by omega, by simpa using hrec, vts_tail hk⟩⟩
  ·have h1 := (out_ge hq hge).1
   rw [h1] at hl
   dsimp only at hl
   omega
theorem vtOut_tail (hv : ValidG g) (hgn : g.nons = (n : Int)) {r t : Int} {ks : List Tree} {k : Int} (h : vt (strG g n) ⟨r, t, ks⟩ ⟨false, k⟩) (hk : (n : Int) ≤ k) :
  t = 0 ∧ ∃ i : Nat, r = (i : Int) ∧ ((g.rules.length ≤ i ∧ i < g.rules.length + cntRec g n ∧ ks = [] ∧ k = ((n + (i - g.rules.length) : Nat) : Int)) ∨
   ∃ q, g.rules[i]? = some q ∧ recB q = true ∧ tailI g n q.left.toNat = k ∧ ∃ ks' x, ks = ks' ++ [x] ∧ vts (strG g n) ks' (q.right.drop 1) ∧ vt (strG g n) x ⟨false, k⟩) := by
 unfold vt at h
 rw [if_neg (by simp)] at h
 obtain ⟨rfl, h0, r', hq, hl, hks⟩ := h
 refine ⟨rfl, r.toNat, by omega, ?_⟩
 rcases Nat.lt_or_ge r.toNat g.rules.length with hlt | hge
 ·obtain ⟨q, hq2⟩ := get_some hlt
  rw [out_lt hq2] at hq
  injection hq with hq
  have hqv := hv.rules q (List.mem_of_getElem? hq2)
  refine .inr ⟨q, hq2, ?_⟩
  unfold strR at hq
  split at hq
  ·subst hq
   dsimp only at hl
   omega
  ·split at hq
   ·rename_i hrec
    subst hq
    dsimp only at hl hks
    rw [hl] at hks
    exact ⟨by simpa using hrec, hl, vts_tail hks⟩
   ·subst hq
    dsimp only at hl
    omega
 ·obtain ⟨h1, h2⟩ := out_ge hq hge
  refine .inl ⟨hge, by omega, ?_, ?_⟩
  ·rw [h1] at hks
   dsimp only at hks
   cases ks with
   | nil => rfl
   | cons a b => simp [vts] at hks
  ·rw [h1] at hl
   exact hl.symm
theorem sym_old (hv : ValidG g) (hgn : g.nons = (n : Int)) {q : Rule} (hq : q ∈ g.rules) {s : Sym} (hs : s ∈ q.right) : s.term = true ∨ s.n < (n : Int) := by
 have h := ((hv.rules q hq).2.2.2 s hs).2
 split at h
 ·rename_i ht; exact .inl ht
 ·exact .inr (by omega)
end
end Go.Proofs.YtjdojogjogenkaaDoor
