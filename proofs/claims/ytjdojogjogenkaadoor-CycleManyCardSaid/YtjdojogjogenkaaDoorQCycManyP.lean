/- Plain law: a tree with a nonterminal on a cycle has a word with infinitely many trees; without cycles a word has finitely many. No program is named here. -/
import Derived.Test.YtjdojogjogenkaaDoorQw2
import Derived.Test.YtjdojogjogenkaaDoorQp1
import Derived.Test.YtjdojogjogenkaaDoorQCycLoopsP
namespace Go.Proofs.YtjdojogjogenkaaDoor
open Go.RowKit
set_option linter.unusedVariables false

/-- A tree of a symbol with a word and at least so many nodes. -/
def Big (g : Gram) (s : Sym) (w : List Int) (N : Nat) : Prop := ∃ t, vt g t s ∧ yieldT t = w ∧ N ≤ nodesT t
theorem vts_nul {g : Gram} : ∀ (ss : List Sym), (∀ x ∈ ss, ∃ t, vt g t x ∧ yieldT t = []) → ∃ ks, vts g ks ss ∧ yields ks = []
  | [], _ => ⟨[], by simp [vts], by simp [yields]⟩
  | s :: ss, h => by
    obtain ⟨t, h1, h2⟩ := h s (by simp)
    obtain ⟨ks, h3, h4⟩ := vts_nul ss (fun x hx => h x (by simp [hx]))
    exact ⟨t :: ks, by simp only [vts]; exact ⟨h1, h3⟩, by simp [yields, h2, h4]⟩
theorem nul_tree {g : Gram} (hl : ∀ q ∈ g.rules, 0 ≤ q.left) (hr : ∀ q ∈ g.rules, ∀ s ∈ q.right, 0 ≤ s.n) {a : Nat} (h : Nul g a) : ∃ t, vt g t ⟨false, (a : Int)⟩ ∧ yieldT t = [] := by
  induction h with
  | mk q hq ht h ih =>
    obtain ⟨ks, h1, h2⟩ := vts_nul q.right (fun x hx => by
      obtain ⟨t, h1, h2⟩ := ih x hx
      refine ⟨t, ?_, h2⟩
      have e : x = ⟨false, ((x.n.toNat : Nat) : Int)⟩ := by
        have h0 := hr q hq x hx
        have h3 := ht x hx
        obtain ⟨b, n⟩ := x
        dsimp only at h0 h3 ⊢
        rw [h3, Int.toNat_of_nonneg h0]
      rw [e]; exact h1)
    obtain ⟨i, hi⟩ := List.getElem?_of_mem hq
    have h0 := hl q hq
    refine ⟨⟨(i : Int), 0, ks⟩, ?_, ?_⟩
    · unfold vt
      simp only [Bool.false_eq_true, if_false]
      exact ⟨trivial, by omega, q, by rw [Int.toNat_natCast]; exact hi, by omega, h1⟩
    · rw [yieldT, if_neg (by omega), h2]
theorem vts_put {g : Gram} (hl : ∀ q ∈ g.rules, 0 ≤ q.left) (hr : ∀ q ∈ g.rules, ∀ s ∈ q.right, 0 ≤ s.n) {y : Tree} {s : Sym} (hy : vt g y s) : ∀ (ss : List Sym) (i : Nat), (∀ x ∈ ss, 0 ≤ x.n) → ss[i]? = some s → Nuls g (ss.take i ++ ss.drop (i + 1)) → ∃ ks, vts g ks ss ∧ yields ks = yieldT y ∧ nodesT y ≤ nodesL ks
  | [], i, _, h, _ => by simp at h
  | x :: ss, 0, hn, h, hu => by
    simp only [List.getElem?_cons_zero, Option.some.injEq] at h
    subst h
    simp only [List.take_zero, List.nil_append, List.drop_succ_cons, List.drop_zero] at hu
    obtain ⟨ks, h1, h2⟩ := vts_nul (g := g) ss (fun z hz => by
      obtain ⟨t, t1, t2⟩ := nul_tree hl hr (hu z hz).2
      refine ⟨t, ?_, t2⟩
      have e : z = ⟨false, ((z.n.toNat : Nat) : Int)⟩ := by
        have h0 := hn z (by simp [hz])
        have h3 := (hu z hz).1
        obtain ⟨b, n⟩ := z
        dsimp only at h0 h3 ⊢
        rw [h3, Int.toNat_of_nonneg h0]
      rw [e]; exact t1)
    exact ⟨y :: ks, by simp only [vts]; exact ⟨hy, h1⟩, by simp [yields, h2], by simp only [nodesL]; omega⟩
  | x :: ss, i + 1, hn, h, hu => by
    simp only [List.getElem?_cons_succ] at h
    simp only [List.take_succ_cons, List.cons_append, List.drop_succ_cons] at hu
    obtain ⟨ks, h1, h2, h3⟩ := vts_put hl hr hy ss i (fun z hz => hn z (by simp [hz])) h (fun z hz => hu z (by simp only [List.mem_cons]; exact .inr hz))
    have hx := hu x (by simp)
    obtain ⟨t, t1, t2⟩ := nul_tree hl hr hx.2
    have e : x = ⟨false, ((x.n.toNat : Nat) : Int)⟩ := by
      have h0 := hn x (by simp)
      have h3 := hx.1
      obtain ⟨b, n⟩ := x
      dsimp only at h0 h3 ⊢
      rw [h3, Int.toNat_of_nonneg h0]
    rw [← e] at t1
    exact ⟨t :: ks, by simp only [vts]; exact ⟨t1, h1⟩, by simp [yields, h2, t2], by simp only [nodesL]; omega⟩
theorem pass_big {g : Gram} (hl : ∀ q ∈ g.rules, 0 ≤ q.left) (hr : ∀ q ∈ g.rules, ∀ s ∈ q.right, 0 ≤ s.n) {a b : Nat} (h : PassE g a b) {w : List Int} {N : Nat} (hb : Big g ⟨false, (b : Int)⟩ w N) : Big g ⟨false, (a : Int)⟩ w (N + 1) := by
  obtain ⟨q, hq, hqa, i, hi, hu⟩ := h
  obtain ⟨y, y1, y2, y3⟩ := hb
  obtain ⟨ks, h1, h2, h3⟩ := vts_put hl hr y1 q.right i (hr q hq) hi hu
  obtain ⟨j, hj⟩ := List.getElem?_of_mem hq
  refine ⟨⟨(j : Int), 0, ks⟩, ?_, ?_, ?_⟩
  · unfold vt
    simp only [Bool.false_eq_true, if_false]
    exact ⟨trivial, by omega, q, by rw [Int.toNat_natCast]; exact hj, hqa, h1⟩
  · rw [yieldT, if_neg (by omega), h2, y2]
  · unfold nodesT; omega
theorem plus_big {g : Gram} (hl : ∀ q ∈ g.rules, 0 ≤ q.left) (hr : ∀ q ∈ g.rules, ∀ s ∈ q.right, 0 ≤ s.n) {a b : Nat} (h : Plus (PassE g) a b) : ∀ {w : List Int} {N : Nat}, Big g ⟨false, (b : Int)⟩ w N → Big g ⟨false, (a : Int)⟩ w (N + 1) := by
  induction h with
  | one b h => exact fun hb => pass_big hl hr h hb
  | snoc b c _ hs ih =>
    intro w N hb
    obtain ⟨t, t1, t2, t3⟩ := ih (pass_big hl hr hs hb)
    exact ⟨t, t1, t2, by omega⟩
theorem loop_big {g : Gram} (hl : ∀ q ∈ g.rules, 0 ≤ q.left) (hr : ∀ q ∈ g.rules, ∀ s ∈ q.right, 0 ≤ s.n) {a : Nat} (h : Plus (PassE g) a a) {w : List Int} (hb : Big g ⟨false, (a : Int)⟩ w 0) : ∀ N, Big g ⟨false, (a : Int)⟩ w N
  | 0 => hb
  | N + 1 => plus_big hl hr h (loop_big hl hr h hb N)
mutual
/-- A node's nonterminal is one of them. -/
def someT (g : Gram) (l : List Bool) : Tree → Bool
  | ⟨r, _, ks⟩ => (decide (0 ≤ r) && (match g.rules[r.toNat]? with | some q => l.getD q.left.toNat false | none => false)) || someL g l ks
def someL (g : Gram) (l : List Bool) : List Tree → Bool
  | [] => false
  | k :: ks => someT g l k || someL g l ks
end
mutual
theorem some_big {g : Gram} {l : List Bool} (hl : ∀ q ∈ g.rules, 0 ≤ q.left) (hr : ∀ q ∈ g.rules, ∀ s ∈ q.right, 0 ≤ s.n) (hL : ∀ k, l[k]? = some true → Plus (PassE g) k k) : ∀ (t : Tree) (s : Sym), vt g t s → someT g l t = true → ∀ N, Big g s (yieldT t) N
  | ⟨r, tt, ks⟩, s, h, hs, N => by
    have h0 := h
    unfold vt at h
    unfold someT at hs
    split at h
    · obtain ⟨rfl, rfl, rfl⟩ := h
      simp [someL] at hs
    · rename_i hst
      obtain ⟨rfl, hr0, q, hq, hql, hks⟩ := h
      rw [hq] at hs
      obtain ⟨st, sn⟩ := s
      dsimp only at *
      have est : st = false := by simpa using hst
      subst est
      by_cases hc : l.getD q.left.toNat false = true
      · have hq0 := hl q (List.mem_of_getElem? hq)
        have hk : l[q.left.toNat]? = some true := by
          rw [List.getD_eq_getElem?_getD] at hc
          cases e : l[q.left.toNat]? with
          | none => rw [e] at hc; simp at hc
          | some b => rw [e] at hc; simp at hc; rw [hc]
        have e : sn = ((q.left.toNat : Nat) : Int) := by omega
        rw [e] at h0 ⊢
        exact loop_big hl hr (hL _ hk) ⟨_, h0, rfl, Nat.zero_le _⟩ N
      · have hs2 : someL g l ks = true := by
          rcases Bool.or_eq_true_iff.1 hs with h | h
          · rw [Bool.and_eq_true] at h
            exact absurd h.2 hc
          · exact h
        obtain ⟨ks', h1, h2, h3⟩ := some_bigs hl hr hL ks q.right hks hs2 N
        refine ⟨⟨r, 0, ks'⟩, ?_, ?_, ?_⟩
        · unfold vt
          simp only [Bool.false_eq_true, if_false]
          exact ⟨trivial, hr0, q, hq, hql, h1⟩
        · rw [yieldT, if_neg (by omega), yieldT, if_neg (by omega), h2]
        · unfold nodesT; omega
theorem some_bigs {g : Gram} {l : List Bool} (hl : ∀ q ∈ g.rules, 0 ≤ q.left) (hr : ∀ q ∈ g.rules, ∀ s ∈ q.right, 0 ≤ s.n) (hL : ∀ k, l[k]? = some true → Plus (PassE g) k k) : ∀ (ks : List Tree) (ss : List Sym), vts g ks ss → someL g l ks = true → ∀ N, ∃ ks', vts g ks' ss ∧ yields ks' = yields ks ∧ N ≤ nodesL ks'
  | [], _, _, h, _ => by simp [someL] at h
  | _ :: _, [], h, _, _ => by simp [vts] at h
  | k :: ks, s :: ss, h, hs, N => by
    simp only [vts] at h
    unfold someL at hs
    rcases Bool.or_eq_true_iff.1 hs with hs | hs
    · obtain ⟨t, t1, t2, t3⟩ := some_big hl hr hL k s h.1 hs N
      exact ⟨t :: ks, by simp only [vts]; exact ⟨t1, h.2⟩, by simp [yields, t2], by simp only [nodesL]; omega⟩
    · obtain ⟨ks', h1, h2, h3⟩ := some_bigs hl hr hL ks ss h.2 hs N
      exact ⟨k :: ks', by simp only [vts]; exact ⟨h.1, h1⟩, by simp [yields, h2], by simp only [nodesL]; omega⟩
end
/-! Without cycles: a bound on the nodes. -/
mutual
theorem nul_of_empty {g : Gram} : ∀ (t : Tree) (s : Sym), vt g t s → yieldT t = [] → s.term = false ∧ Nul g s.n.toNat
  | ⟨r, tt, ks⟩, s, h, hy => by
    unfold vt at h
    split at h
    · obtain ⟨rfl, rfl, rfl⟩ := h
      simp [yieldT] at hy
    · rename_i hst
      obtain ⟨_, hr, q, hq, hql, hks⟩ := h
      rw [yieldT, if_neg (by omega)] at hy
      refine ⟨by simpa using hst, ?_⟩
      rw [← hql]
      exact Nul.of (List.mem_of_getElem? hq) (nuls_of_empty ks q.right hks hy)
theorem nuls_of_empty {g : Gram} : ∀ (ks : List Tree) (ss : List Sym), vts g ks ss → yields ks = [] → Nuls g ss
  | [], [], _, _ => fun x hx => by simp at hx
  | [], _ :: _, h, _ => by simp [vts] at h
  | _ :: _, [], h, _ => by simp [vts] at h
  | k :: ks, s :: ss, h, hy => by
    simp only [vts] at h
    simp only [yields, List.append_eq_nil_iff] at hy
    intro x hx
    rcases List.mem_cons.1 hx with rfl | hx
    · exact nul_of_empty k _ h.1 hy.1
    · exact nuls_of_empty ks ss h.2 hy.2 x hx
end
/-- A kid has a shorter word, or all other kids have none. -/
theorem kid_case {g : Gram} : ∀ (ks : List Tree) (ss : List Sym), vts g ks ss → ∀ (i : Nat) (k : Tree), ks[i]? = some k → ∃ s, ss[i]? = some s ∧ vt g k s ∧ ((yieldT k).length < (yields ks).length ∨ (yieldT k).length = (yields ks).length ∧ Nuls g (ss.take i ++ ss.drop (i + 1)))
  | [], _, _, i, k, h => by simp at h
  | _ :: _, [], h, _, _, _ => by simp [vts] at h
  | k :: ks, s :: ss, h, 0, x, hx => by
    simp only [vts] at h
    simp only [List.getElem?_cons_zero, Option.some.injEq] at hx
    subst hx
    refine ⟨s, rfl, h.1, ?_⟩
    simp only [yields, List.length_append]
    by_cases e : yields ks = []
    · right
      refine ⟨by rw [e]; simp, ?_⟩
      simp only [List.take_zero, List.nil_append, List.drop_succ_cons, List.drop_zero]
      exact nuls_of_empty ks ss h.2 e
    · left
      have := List.length_pos_iff.2 e
      omega
  | k :: ks, s :: ss, h, i + 1, x, hx => by
    simp only [vts] at h
    simp only [List.getElem?_cons_succ] at hx
    obtain ⟨s', h1, h2, h3⟩ := kid_case ks ss h.2 i x hx
    refine ⟨s', by simpa using h1, h2, ?_⟩
    simp only [yields, List.length_append]
    by_cases e : yieldT k = []
    · rcases h3 with h3 | ⟨h3, h4⟩
      · left; omega
      · right
        refine ⟨by rw [e]; simpa using h3, ?_⟩
        simp only [List.take_succ_cons, List.cons_append, List.drop_succ_cons]
        intro z hz
        rcases List.mem_cons.1 hz with rfl | hz
        · exact nul_of_empty k _ h.1 e
        · exact h4 z hz
    · left
      have := List.length_pos_iff.2 e
      rcases h3 with h3 | ⟨h3, _⟩ <;> omega
theorem nodesL_le (N : Nat) : ∀ (ks : List Tree), (∀ k ∈ ks, nodesT k ≤ N) → nodesL ks ≤ ks.length * N
  | [], _ => by simp [nodesL]
  | k :: ks, h => by
    have h1 := h k (by simp)
    have h2 := nodesL_le N ks (fun x hx => h x (by simp [hx]))
    simp only [nodesL, List.length_cons, Nat.add_mul]
    omega
theorem vts_lenC {g : Gram} : ∀ (ks : List Tree) (ss : List Sym), vts g ks ss → ks.length = ss.length
  | [], [], _ => rfl
  | [], _ :: _, h => by simp [vts] at h
  | _ :: _, [], h => by simp [vts] at h
  | k :: ks, s :: ss, h => by
    simp only [vts] at h
    simp [vts_lenC ks ss h.2]
/-- One node more: its kids have shorter words, or lie further on the way. -/
theorem node_step {g : Gram} {n R N0 N1 : Nat} (hl : ∀ q ∈ g.rules, 0 ≤ q.left) (hr : ∀ q ∈ g.rules, q.right.length ≤ R) (hn : ∀ q ∈ g.rules, ∀ s ∈ q.right, 0 ≤ s.n) {c : Nat} {a : Nat} {vis : List Nat} (hvis : ∀ x ∈ vis, Plus (PassE g) x a)
    (H0 : ∀ (t : Tree) (b : Nat), vt g t ⟨false, (b : Int)⟩ → (yieldT t).length < c → nodesT t ≤ N0)
    (H1 : ∀ (t : Tree) (b : Nat), PassE g a b → vt g t ⟨false, (b : Int)⟩ → (yieldT t).length ≤ c → nodesT t ≤ N1)
    (t : Tree) (ht : vt g t ⟨false, (a : Int)⟩) (hc : (yieldT t).length ≤ c) : nodesT t ≤ 1 + R * (1 + N0 + N1) := by
  obtain ⟨r, tt, ks⟩ := t
  unfold vt at ht
  simp only [Bool.false_eq_true, if_false] at ht
  obtain ⟨rfl, hr0, q, hq, hql, hks⟩ := ht
  have hqm := List.mem_of_getElem? hq
  rw [yieldT, if_neg (by omega)] at hc
  have hlen := vts_lenC ks q.right hks
  have h2 : nodesL ks ≤ ks.length * (1 + N0 + N1) := nodesL_le _ ks (fun k hk => by
    obtain ⟨i, hi⟩ := List.getElem?_of_mem hk
    obtain ⟨s, hs, hv, hcase⟩ := kid_case ks q.right hks i k hi
    obtain ⟨st, sn⟩ := s
    cases st with
    | true =>
      obtain ⟨kr, kt, kk⟩ := k
      unfold vt at hv
      simp only [if_true] at hv
      obtain ⟨_, _, rfl⟩ := hv
      simp only [nodesT, nodesL]
      omega
    | false =>
      have h0 : 0 ≤ sn := hn q hqm _ (List.mem_of_getElem? hs)
      have e : sn = ((sn.toNat : Nat) : Int) := by omega
      rw [e] at hv hs
      rcases hcase with hlt | ⟨heq, hnul⟩
      · have := H0 k _ hv (by omega)
        omega
      · have := H1 k _ ⟨q, hqm, hql, i, hs, hnul⟩ hv (by omega)
        omega)
  have h3 : ks.length * (1 + N0 + N1) ≤ R * (1 + N0 + N1) := Nat.mul_le_mul_right _ (by rw [hlen]; exact hr q hqm)
  unfold nodesT
  omega
theorem nodes_way {g : Gram} {n R N0 : Nat} (hl : ∀ q ∈ g.rules, 0 ≤ q.left ∧ q.left < (n : Int)) (hr : ∀ q ∈ g.rules, q.right.length ≤ R) (hn : ∀ q ∈ g.rules, ∀ s ∈ q.right, 0 ≤ s.n) (hno : ∀ a, ¬ Plus (PassE g) a a) {c : Nat}
    (H0 : ∀ (t : Tree) (b : Nat), vt g t ⟨false, (b : Int)⟩ → (yieldT t).length < c → nodesT t ≤ N0) :
    ∀ m, ∃ N, ∀ (t : Tree) (a : Nat) (vis : List Nat), vis.Nodup → (∀ x ∈ vis, x < n) → n ≤ vis.length + m → (∀ x ∈ vis, Plus (PassE g) x a) → vt g t ⟨false, (a : Int)⟩ → (yieldT t).length ≤ c → nodesT t ≤ N := by
  have hin : ∀ (t : Tree) (a : Nat), vt g t ⟨false, (a : Int)⟩ → a < n := fun t a h => by
    obtain ⟨r, tt, ks⟩ := t
    unfold vt at h
    simp only [Bool.false_eq_true, if_false] at h
    obtain ⟨_, _, q, hq, hql, _⟩ := h
    have := hl q (List.mem_of_getElem? hq)
    omega
  intro m
  induction m with
  | zero =>
    refine ⟨0, fun t a vis hd hlt hm hp ht _ => ?_⟩
    exfalso
    have ha : a ∉ vis := fun hm => hno a (hp a hm)
    have := nodup_le n (a :: vis) (List.nodup_cons.2 ⟨ha, hd⟩) (fun x hx => by
      rcases List.mem_cons.1 hx with rfl | hx
      · exact hin t _ ht
      · exact hlt x hx)
    simp only [List.length_cons] at this
    omega
  | succ m ih =>
    obtain ⟨N1, h1⟩ := ih
    refine ⟨1 + R * (1 + N0 + N1), fun t a vis hd hlt hm hp ht hc => ?_⟩
    have ha : a ∉ vis := fun hm => hno a (hp a hm)
    refine node_step (n := n) (fun q hq => (hl q hq).1) hr hn hp H0 (fun u b hb hu hcu => ?_) t ht hc
    refine h1 u b (a :: vis) (List.nodup_cons.2 ⟨ha, hd⟩) (fun x hx => ?_) (by simp only [List.length_cons]; omega) (fun x hx => ?_) hu hcu
    · rcases List.mem_cons.1 hx with rfl | hx
      · exact hin t _ ht
      · exact hlt x hx
    · rcases List.mem_cons.1 hx with rfl | hx
      · exact .one _ hb
      · exact .snoc _ _ (hp x hx) hb
theorem nodes_word {g : Gram} {n R : Nat} (hl : ∀ q ∈ g.rules, 0 ≤ q.left ∧ q.left < (n : Int)) (hr : ∀ q ∈ g.rules, q.right.length ≤ R) (hn : ∀ q ∈ g.rules, ∀ s ∈ q.right, 0 ≤ s.n) (hno : ∀ a, ¬ Plus (PassE g) a a) :
    ∀ c, ∃ N, ∀ (t : Tree) (a : Nat), vt g t ⟨false, (a : Int)⟩ → (yieldT t).length < c → nodesT t ≤ N
  | 0 => ⟨0, fun t a _ h => by omega⟩
  | c + 1 => by
    obtain ⟨N0, h0⟩ := nodes_word hl hr hn hno c
    obtain ⟨N, h⟩ := nodes_way hl hr hn hno h0 n
    exact ⟨N, fun t a ht hc => h t a [] List.nodup_nil (by simp) (by simp) (by simp) ht (by omega)⟩
/-- What CycleMany asks of the count. -/
theorem cycMany_cnt {g : Gram} {n : Nat} {l : List Bool} {t : Tree} {k : Int} (hv : ValidG g) (hn : g.nons = (n : Int)) (hL : LoopL g n l) (ht : vt g t ⟨false, g.start⟩) (hk : CntIs (TreesOf g (yieldT t)) k) :
    (someT g l t = true → k = -1) ∧ (true ∉ l → k ≠ -1) := by
  have h0 : ∀ q ∈ g.rules, 0 ≤ q.left := fun q hq => (hv.rules q hq).1
  have h1 : ∀ q ∈ g.rules, ∀ s ∈ q.right, 0 ≤ s.n := fun q hq s hs => ((hv.rules q hq).2.2.2 s hs).1
  constructor
  · intro hs
    rcases hk with ⟨rfl, _⟩ | ⟨L, _, hLm, rfl⟩
    · rfl
    · exfalso
      obtain ⟨N, hN⟩ := nodes_bound L
      obtain ⟨u, u1, u2, u3⟩ := some_big h0 h1 (fun j hj => by
        have hj2 := (List.getElem?_eq_some_iff.1 hj).1
        exact (hL.2 j (by rw [← hL.1]; exact hj2)).1 hj) t _ ht hs N
      have := hN u ((hLm u).2 ⟨u1, u2⟩)
      omega
  · intro hs
    rcases hk with ⟨rfl, hb⟩ | ⟨L, _, hLm, rfl⟩
    · exfalso
      have hno : ∀ a, ¬ Plus (PassE g) a a := fun a ha => by
        have hin := (passIn_of hv hn).e
        have hlt : a < n := by
          cases ha with
          | one _ h => exact (hin _ _ h).1
          | snoc _ _ _ h => exact (hin _ _ h).2
        have h2 := (hL.2 a hlt).2 ha
        exact hs (List.mem_of_getElem? h2)
      obtain ⟨N, hN⟩ := nodes_word (n := n) (R := 4) (fun q hq => by have := hv.rules q hq; omega) (fun q hq => (hv.rules q hq).2.2.1) h1 hno ((yieldT t).length + 1)
      obtain ⟨u, hu, hu2⟩ := hb (N + 1)
      have e : g.start = ((g.start.toNat : Nat) : Int) := by have := hv.s0; omega
      have h3 := hu.1
      rw [e] at h3
      have := hN u _ h3 (by rw [hu.2]; omega)
      omega
    · omega
end Go.Proofs.YtjdojogjogenkaaDoor
