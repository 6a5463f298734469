/- Plain law: the flat tree of a layered tree is a tree of the flat grammar, respects the levels, and has the same word; none of both is great. No program is named here. -/
import Derived.Test.YtjdojogjogenkaaDoorQp1
import Derived.Test.YtjdojogjogenkaaDoorQw1
namespace Go.Proofs.YtjdojogjogenkaaDoor
open Go.RowKit
set_option linter.unusedVariables false

theorem lay_get : ∀ (ls : List Level) (k r i : Nat) (q : Rule), (layFrom k ls)[i]? = some q →
    (∃ (j m : Nat) (l : Level) (op : Int), ls[j]? = some l ∧ op ∈ l.ops ∧ q = layRule l.kind ((k + j : Nat) : Int) op ∧ (toFrom (r : Int) ls)[i]? = some ((r + m : Nat) : Int) ∧ ((ls.map levRules).flatten)[m]? = some (opRule l.kind op) ∧ (levFrom k ls)[m]? = some ((k + j : Nat) : Int)) ∨
    (∃ j : Nat, j < ls.length ∧ q = ⟨((k + j : Nat) : Int), [⟨false, ((k + j : Nat) : Int) + 1⟩]⟩ ∧ (toFrom (r : Int) ls)[i]? = some (-1))
  | [], k, r, i, q, h => by simp [layFrom] at h
  | l :: ls, k, r, i, q, h => by
    unfold layFrom at h
    unfold toFrom
    rcases Nat.lt_or_ge i l.ops.length with hlt | hge
    · rw [List.getElem?_append_left (by simpa using hlt)] at h
      obtain ⟨o, ho⟩ := get_some hlt
      rw [List.getElem?_map, ho] at h
      simp only [Option.map_some, Option.some.injEq] at h
      refine .inl ⟨0, i, l, o, rfl, List.mem_of_getElem? ho, h.symm, ?_, ?_, ?_⟩
      · rw [List.getElem?_append_left (by rw [nums_len]; exact hlt), nums_get _ _ _ _ ho]
        congr 1
      · simp only [List.map_cons, List.flatten_cons]
        rw [List.getElem?_append_left (by simpa [levRules] using hlt)]
        simp [levRules, ho]
      · unfold levFrom
        rw [List.getElem?_append_left (by simpa using hlt)]
        simp [ho]
    · rw [List.getElem?_append_right (by simpa using hge)] at h
      rw [List.getElem?_append_right (by rw [nums_len]; exact hge), nums_len]
      simp only [List.length_map] at h
      cases hi : i - l.ops.length with
      | zero =>
        rw [hi] at h
        simp only [List.getElem?_cons_zero, Option.some.injEq] at h
        subst h
        exact .inr ⟨0, by simp, rfl, by simp⟩
      | succ i' =>
        rw [hi] at h
        simp only [List.getElem?_cons_succ] at h ⊢
        rcases lay_get ls (k + 1) (r + l.ops.length) i' q h with ⟨j, m, l', op, h1, h2, h3, h4, h5, h6⟩ | ⟨j, h1, h2, h3⟩
        · refine .inl ⟨j + 1, l.ops.length + m, l', op, by simpa using h1, h2, ?_, ?_, ?_, ?_⟩
          · rw [h3, show k + 1 + j = k + (j + 1) from by omega]
          · rw [show ((r : Int) + (l.ops.length : Int)) = ((r + l.ops.length : Nat) : Int) from by omega, h4, show r + l.ops.length + m = r + (l.ops.length + m) from by omega]
          · simp only [List.map_cons, List.flatten_cons]
            rw [List.getElem?_append_right (by simp [levRules])]
            simp only [levRules, List.length_map]
            rw [show l.ops.length + m - l.ops.length = m from by omega]
            exact h5
          · unfold levFrom
            rw [List.getElem?_append_right (by simp)]
            simp only [List.length_map]
            rw [show l.ops.length + m - l.ops.length = m from by omega, h6, show k + 1 + j = k + (j + 1) from by omega]
        · refine .inr ⟨j + 1, by simpa using h1, ?_, ?_⟩
          · rw [h2, show k + 1 + j = k + (j + 1) from by omega]
          · rw [show ((r : Int) + (l.ops.length : Int)) = ((r + l.ops.length : Nat) : Int) from by omega, h3]

/-- The kids of a node of the layered grammar. -/
inductive KidsY (t : Table) (g : Gram) (ks : List Tree) (k R : Int) : Prop where
  | atom (hk : k = (t.levels.length : Int)) (hR : R = 0) (e : ks = [⟨-1, t.atom, []⟩])
  | brk (hk : k = (t.levels.length : Int)) (hR : R = 1) (hb : brk t = true) (y : Tree) (hy : vt g y ⟨false, 0⟩) (e : ks = [⟨-1, t.opn, []⟩, y, ⟨-1, t.cls, []⟩])
  | unit (h0 : 0 ≤ k) (hk : k < (t.levels.length : Int)) (hR : R = -1) (y : Tree) (hy : vt g y ⟨false, k + 1⟩) (e : ks = [y])
  | op (j m : Nat) (l : Level) (op : Int) (hk : k = (j : Int)) (hl : t.levels[j]? = some l) (ho : op ∈ l.ops) (hR : R = (m : Int)) (hf : (flatRules t)[m]? = some (opRule l.kind op)) (hlv : (flatLev t)[m]? = some (j : Int)) (hks : vts g ks (layRule l.kind (j : Int) op).right)
theorem lay_node {t : Table} {g : Gram} (hg : g.rules = layRules (brk t) t) {r x k : Int} {ks : List Tree} (h : vt g ⟨r, x, ks⟩ ⟨false, k⟩) : 0 ≤ r ∧ x = 0 ∧ ∃ R, (layTo (brk t) t)[r.toNat]? = some R ∧ KidsY t g ks k R := by
  unfold vt at h
  simp only [Bool.false_eq_true, if_false] at h
  obtain ⟨h1, h2, q, h3, h4, h5⟩ := h
  refine ⟨h2, h1, ?_⟩
  rw [hg] at h3
  unfold layRules at h3
  unfold layTo
  generalize r.toNat = i at h3
  obtain ⟨base, hbase⟩ : ∃ base : Nat, base = if brk t then 2 else 1 := ⟨_, rfl⟩
  have hb' : (if brk t then (2 : Int) else 1) = (base : Int) := by rw [hbase]; split <;> rfl
  have hfl : ∀ m : Nat, (flatRules t)[base + m]? = ((t.levels.map levRules).flatten)[m]? ∧ (flatLev t)[base + m]? = (levFrom 0 t.levels)[m]? := by
    intro m
    unfold flatRules flatLev
    rw [hbase]
    cases brk t
    · simp [show 1 + m = m + 1 from by omega]
    · simp [show 2 + m = m + 1 + 1 from by omega]
  rw [hb']
  have hl : (layFrom 0 t.levels).length = (toFrom (base : Int) t.levels).length := by rw [layFrom_len, toFrom_len]
  rcases Nat.lt_or_ge i (layFrom 0 t.levels).length with hlt | hge
  · rw [List.getElem?_append_left hlt] at h3
    rw [List.getElem?_append_left (by omega)]
    rcases lay_get t.levels 0 base i q h3 with ⟨j, m, l, op, g1, g2, g3, g4, g5, g6⟩ | ⟨j, g1, g2, g3⟩
    · refine ⟨_, g4, .op j (base + m) l op ?_ g1 g2 rfl ((hfl m).1.trans g5) ?_ ?_⟩
      · rw [← h4, g3]; simp [layRule]
      · rw [(hfl m).2, g6]; simp
      · rw [g3] at h5; simpa using h5
    · refine ⟨_, g3, ?_⟩
      subst g2
      dsimp only at h4 h5
      obtain ⟨y, rfl, hy⟩ := vts_one h5
      exact .unit (by omega) (by omega) rfl y (by rw [← h4]; exact hy) rfl
  · rw [List.getElem?_append_right hge] at h3
    rw [List.getElem?_append_right (by omega), ← hl]
    generalize i - (layFrom 0 t.levels).length = j at h3 ⊢
    unfold layTailR at h3
    unfold layTailL
    match j, h3 with
    | 0, h3 =>
      simp only [List.getElem?_cons_zero, Option.some.injEq] at h3
      subst h3
      obtain ⟨y, rfl, hy⟩ := vts_one h5
      exact ⟨0, by simp, .atom h4.symm rfl (by rw [vt_leaf hy])⟩
    | 1, h3 =>
      cases hb : brk t
      · rw [hb] at h3; simp at h3
      · rw [hb] at h3
        simp only [if_true, List.getElem?_cons_succ, List.getElem?_cons_zero, Option.some.injEq] at h3
        subst h3
        obtain ⟨x, l1, rfl, hx, hk⟩ := vts_cons h5
        obtain ⟨y, l2, rfl, hy, hk⟩ := vts_cons hk
        obtain ⟨z, rfl, hz⟩ := vts_one hk
        exact ⟨1, by simp, .brk h4.symm rfl hb y hy (by rw [vt_leaf hx, vt_leaf hz])⟩
    | j + 2, h3 =>
      cases hb : brk t
      · rw [hb] at h3; simp at h3
      · rw [hb] at h3; simp at h3

/-- What the flat tree of a layered one is. -/
structure BackOk (t : Table) (f : Gram) (x y : Tree) (k : Int) : Prop where
  isT : vt f y ⟨false, 0⟩
  same : yieldT y = yieldT x
  allow : allowE t y = true
  lev : k ≤ levE t y.rule
  few : nodesT y ≤ nodesT x
  small : (nodesT x : Int) + 8 ≤ 10 * ((yieldT x).length : Int) + (6 - k)
theorem BackOk.rule {t : Table} {f : Gram} {x y : Tree} {k : Int} (h : BackOk t f x y k) : 0 ≤ y.rule := vt_node h.isT
theorem yield_leaf (a : Int) : yieldT ⟨-1, a, []⟩ = [a] := by simp [yieldT]
theorem nodes_leaf (a : Int) : nodesT ⟨-1, a, []⟩ = 1 := by simp [nodesT, nodesL]
theorem allow_leaf (t : Table) (a : Int) : allowE t ⟨-1, a, []⟩ = true := by simp [allowE]
theorem back_leaf (tos : List Int) (a : Int) : backT tos ⟨-1, a, []⟩ = ⟨-1, a, []⟩ := by simp [backT]
theorem yield_node {r x : Int} {ks : List Tree} (h : 0 ≤ r) : yieldT ⟨r, x, ks⟩ = yields ks := by rw [yieldT, if_neg (by omega)]
theorem vt_of_leaf (g : Gram) (a : Int) : vt g ⟨-1, a, []⟩ ⟨true, a⟩ := by simp [vt]
theorem BackOk.inf {t : Table} {f : Gram} (hf : f.rules = flatRules t) {j m : Nat} {l : Level} {op : Int} (hl : t.levels[j]? = some l) (hfm : (flatRules t)[m]? = some (opRule l.kind op)) (hlv : (flatLev t)[m]? = some (j : Int)) (h3 : l.kind ≠ 3)
    {r : Int} (hr : 0 ≤ r) {x1 y1 x2 y2 : Tree} {a1 a2 : Int} (b1 : BackOk t f x1 y1 a1) (b2 : BackOk t f x2 y2 a2) (j1 : (j : Int) ≤ a1) (j2 : (j : Int) ≤ a2) (hj : (j : Int) ≤ 6) (c1 : (if l.kind = 1 then (j : Int) else j + 1) ≤ a1) (c2 : (if l.kind = 2 ∨ l.kind = 3 then (j : Int) else j + 1) ≤ a2) :
    BackOk t f ⟨r, 0, [x1, ⟨-1, op, []⟩, x2]⟩ ⟨(m : Int), 0, [y1, ⟨-1, op, []⟩, y2]⟩ (j : Int) := by
  have hm : levE t (m : Int) = (j : Int) := levE_of hlv (by simp)
  refine ⟨?_, ?_, ?_, ?_, ?_, ?_⟩
  · unfold vt
    simp only [Bool.false_eq_true, if_false]
    refine ⟨by trivial, by omega, opRule l.kind op, by rw [hf]; simpa using hfm, rfl, ?_⟩
    unfold opRule
    rw [if_neg h3]
    simp only [vts]
    exact ⟨b1.isT, vt_of_leaf f op, b2.isT, trivial⟩
  · rw [yield_node (by omega), yield_node hr]
    simp only [yields, b1.same, b2.same]
  · rw [allowE, if_neg (by omega)]
    have h1 : nodeE t (m : Int) [y1, ⟨-1, op, []⟩, y2] = true := by
      unfold nodeE
      rw [hm]
      simp only [Int.toNat_natCast, hl]
      have e1 : lastT [y1, ⟨-1, op, []⟩, y2] = y2 := rfl
      have e2 : headT [y1, ⟨-1, op, []⟩, y2] = y1 := rfl
      rw [e1, e2]
      have := b1.lev
      have := b2.lev
      simp only [Bool.and_eq_true, Bool.or_eq_true, decide_eq_true_eq]
      exact ⟨by omega, .inr (by omega)⟩
    rw [h1]
    simp [allowEs, b1.allow, b2.allow, allow_leaf]
  · show (j : Int) ≤ levE t (m : Int)
    omega
  · have := b1.few
    have := b2.few
    simp only [nodesT, nodesL, nodes_leaf]
    omega
  · rw [yield_node hr]
    have := b1.small
    have := b2.small
    simp only [nodesT, nodesL, nodes_leaf, yields, yield_leaf, List.length_append, List.length_cons, List.length_nil]
    omega

theorem back_law {t : Table} (hv : Valid t) {g f : Gram} (hg : g.rules = layRules (brk t) t) (hf : f.rules = flatRules t) : ∀ (x : Tree) (k : Int), vt g x ⟨false, k⟩ → BackOk t f x (backT (layTo (brk t) t) x) k := by
  refine Tree.ind ?_
  intro r x ks ih k h
  obtain ⟨hr, rfl, R, hR, hk⟩ := lay_node hg h
  have hL := hv.levels
  have hRd : (layTo (brk t) t).getD r.toNat 0 = R := by rw [List.getD_eq_getElem?_getD, hR]; rfl
  have hb : ∀ ks', R ≥ 0 → backT (layTo (brk t) t) ⟨r, 0, ks'⟩ = ⟨R, 0, backL (layTo (brk t) t) ks'⟩ := fun ks' h0 => by rw [backT, if_neg (by omega), hRd, if_neg (by omega)]
  cases hk with
  | atom hk hR0 e =>
    subst hR0; subst e; subst hk
    rw [hb _ (by omega)]
    simp only [backL, back_leaf]
    have h0 : (flatLev t)[0]? = some (t.levels.length : Int) := rfl
    have hm : levE t 0 = (t.levels.length : Int) := levE_of h0 rfl
    refine ⟨?_, ?_, ?_, ?_, Nat.le_refl _, ?_⟩
    · unfold vt
      simp only [Bool.false_eq_true, if_false]
      exact ⟨by trivial, by omega, _, by rw [hf]; rfl, rfl, by simp only [vts]; exact ⟨vt_of_leaf f _, trivial⟩⟩
    · rw [yield_node (by omega), yield_node hr]
    · rw [allowE, if_neg (by omega)]
      simp [allowEs, allow_leaf, nodeE, hm]
    · show _ ≤ levE t 0; omega
    · rw [yield_node hr]
      simp only [nodesT, nodesL, yields, yield_leaf, List.length_append, List.length_cons, List.length_nil]
      omega
  | brk hk hR1 hbr y hy e =>
    subst hR1; subst e; subst hk
    have b := ih y (by simp) 0 hy
    rw [hb _ (by omega)]
    simp only [backL, back_leaf]
    have h0 : (flatLev t)[1]? = some (t.levels.length : Int) := by unfold flatLev; rw [hbr]; rfl
    have hm : levE t 1 = (t.levels.length : Int) := levE_of h0 rfl
    refine ⟨?_, ?_, ?_, ?_, ?_, ?_⟩
    · unfold vt
      simp only [Bool.false_eq_true, if_false]
      exact ⟨by trivial, by omega, ⟨0, [⟨true, t.opn⟩, ⟨false, 0⟩, ⟨true, t.cls⟩]⟩, by rw [hf]; unfold flatRules; rw [hbr]; rfl, rfl, by simp only [vts]; exact ⟨vt_of_leaf f _, b.isT, vt_of_leaf f _, trivial⟩⟩
    · rw [yield_node (by omega), yield_node hr]
      simp only [yields, b.same]
    · rw [allowE, if_neg (by omega)]
      simp [allowEs, allow_leaf, nodeE, hm, b.allow]
    · show _ ≤ levE t 1; omega
    · have := b.few
      simp only [nodesT, nodesL]
      omega
    · rw [yield_node hr]
      have := b.small
      simp only [nodesT, nodesL, yields, yield_leaf, List.length_append, List.length_cons, List.length_nil]
      omega
  | unit h0 hk hRn y hy e =>
    subst hRn; subst e
    have b := ih y (by simp) (k + 1) hy
    have e1 : backT (layTo (brk t) t) ⟨r, 0, [y]⟩ = backT (layTo (brk t) t) y := by rw [backT, if_neg (by omega), hRd, if_pos (by omega)]; rfl
    rw [e1]
    refine ⟨b.isT, ?_, b.allow, by have := b.lev; omega, ?_, ?_⟩
    · rw [yield_node hr, b.same]; simp [yields]
    · have := b.few
      simp only [nodesT, nodesL]
      omega
    · rw [yield_node hr]
      have := b.small
      simp only [nodesT, nodesL, yields, List.length_append, List.length_nil]
      omega
  | op j m l op hk hl ho hRm hfm hlv hks =>
    subst hRm; subst hk
    have hj := (List.getElem?_eq_some_iff.1 hl).1
    have hkd := hv.kinds l (List.mem_of_getElem? hl)
    rw [hb _ (by omega)]
    unfold layRule at hks
    by_cases k3 : l.kind = 3
    · simp only [k3] at hks
      simp only [if_neg (show ¬ (3 : Int) = 0 by decide), if_neg (show ¬ (3 : Int) = 1 by decide), if_neg (show ¬ (3 : Int) = 2 by decide)] at hks
      obtain ⟨x1, l1, rfl, h1, hks⟩ := vts_cons hks
      obtain ⟨y, rfl, hy⟩ := vts_one hks
      obtain rfl := vt_leaf h1
      have b := ih y (by simp) _ hy
      simp only [backL, back_leaf]
      have hm : levE t (m : Int) = (j : Int) := levE_of hlv (by simp)
      refine ⟨?_, ?_, ?_, ?_, ?_, ?_⟩
      · unfold vt
        simp only [Bool.false_eq_true, if_false]
        refine ⟨by trivial, by omega, opRule l.kind op, by rw [hf]; simpa using hfm, rfl, ?_⟩
        unfold opRule
        rw [if_pos k3]
        simp only [vts]
        exact ⟨vt_of_leaf f op, b.isT, trivial⟩
      · rw [yield_node (by omega), yield_node hr]
        simp only [yields, b.same]
      · rw [allowE, if_neg (by omega)]
        have h1 : nodeE t (m : Int) [⟨-1, op, []⟩, backT (layTo (brk t) t) y] = true := by
          unfold nodeE
          rw [hm]
          simp only [Int.toNat_natCast, hl, k3]
          have e1 : lastT [⟨-1, op, []⟩, backT (layTo (brk t) t) y] = backT (layTo (brk t) t) y := rfl
          rw [e1]
          have := b.lev
          simp
          omega
        rw [h1]
        simp [allowEs, b.allow, allow_leaf]
      · show (j : Int) ≤ levE t (m : Int)
        omega
      · have := b.few
        simp only [nodesT, nodesL, nodes_leaf]
        omega
      · rw [yield_node hr]
        have := b.small
        simp only [nodesT, nodesL, nodes_leaf, yields, yield_leaf, List.length_append, List.length_cons, List.length_nil]
        omega
    · rcases (show l.kind = 0 ∨ l.kind = 1 ∨ l.kind = 2 by omega) with k0 | k0 | k0
      all_goals
        simp only [k0] at hks
        simp at hks
        obtain ⟨x1, l1, rfl, h1, hks⟩ := vts_cons hks
        obtain ⟨x2, l2, rfl, h2, hks⟩ := vts_cons hks
        obtain ⟨x3, rfl, hx3⟩ := vts_one hks
        obtain rfl := vt_leaf h2
        have b1 := ih x1 (by simp) _ h1
        have b2 := ih x3 (by simp) _ hx3
        simp only [backL, back_leaf]
        exact BackOk.inf hf hl hfm hlv k3 hr b1 b2 (by omega) (by omega) (by omega) (by rw [k0]; simp) (by rw [k0]; simp)

mutual
theorem visit_of {g : Gram} (hs : ∀ q ∈ g.rules, ∀ s ∈ q.right, s.term = true → 0 ≤ s.n ∧ s.n < g.terms) : ∀ (t : Tree) (s : Sym) (n : Int), vt g t s → (s.term = true → 0 ≤ s.n ∧ s.n < g.terms) → 0 ≤ n → n + (nodesT t : Int) ≤ 5000 → visitE g t n = (0, n + (nodesT t : Int)) ∧ rootS g t = s
  | ⟨r, t, ks⟩, ⟨st, sn⟩, n, h, h1, h0, h5 => by
    unfold vt at h
    unfold nodesT at h5 ⊢
    cases st
    · simp only [Bool.false_eq_true, if_false] at h
      obtain ⟨rfl, hr, q, hq, hl, hk⟩ := h
      have h6 := kids_of hs ks q.right (n + 1) hk (hs q (List.mem_of_getElem? hq)) (by omega) (by omega)
      constructor
      · rw [visitE, if_neg (by omega), if_neg (by omega), if_neg (by omega), hq]
        dsimp only
        rw [if_neg (by rintro (h | h); exact h rfl; exact h (vts_len' ks q.right hk)), h6]
        simp; omega
      · unfold rootS
        dsimp only
        rw [if_neg (by omega), hq]
        simp [hl]
    · simp only [if_true] at h
      obtain ⟨rfl, rfl, rfl⟩ := h
      have h2 := h1 rfl
      constructor
      · dsimp only at h2
        rw [visitE, if_neg (by omega), if_pos rfl, if_neg (by rintro (h | h | h); omega; omega; exact h rfl)]
        simp [nodesL]
      · unfold rootS
        dsimp only
        rw [if_pos (by omega)]
theorem kids_of {g : Gram} (hs : ∀ q ∈ g.rules, ∀ s ∈ q.right, s.term = true → 0 ≤ s.n ∧ s.n < g.terms) : ∀ (ks : List Tree) (ss : List Sym) (n : Int), vts g ks ss → (∀ s ∈ ss, s.term = true → 0 ≤ s.n ∧ s.n < g.terms) → 0 ≤ n → n + (nodesL ks : Int) ≤ 5000 → kidsE g ks ss n = (0, n + (nodesL ks : Int))
  | [], ss, n, h, _, _, _ => by
    have e : kidsE g [] ss n = (0, n) := by cases ss <;> rfl
    rw [e]; simp [nodesL]
  | k :: ks, s :: ss, n, h, h1, h0, h5 => by
    unfold vts at h
    unfold nodesL at h5 ⊢
    obtain ⟨g1, g2⟩ := visit_of hs k s n h.1 (h1 s (by simp)) h0 (by omega)
    have g3 := kids_of hs ks ss (n + (nodesT k : Int)) h.2 (fun x hx => h1 x (by simp [hx])) (by omega) (by omega)
    unfold kidsE
    rw [g1]
    dsimp only
    rw [if_neg (by simp), if_neg (by simp [g2]), g3]
    simp; omega
  | _ :: _, [], _, h, _, _, _ => by simp [vts] at h
end
theorem treeE_of {g : Gram} (hs : ∀ q ∈ g.rules, ∀ s ∈ q.right, s.term = true → 0 ≤ s.n ∧ s.n < g.terms) {t : Tree} {a : Int} (h : vt g t ⟨false, a⟩) (hn : nodesT t ≤ 5000) : treeE g t = 0 := by
  unfold treeE
  rw [(visit_of hs t _ 0 h (fun h => by simp at h) (by omega) (by omega)).1]
theorem op_range {t : Table} (hv : Valid t) {l : Level} (hl : l ∈ t.levels) {op : Int} (ho : op ∈ l.ops) : 0 ≤ op ∧ op < t.terms :=
  hv.range op (by unfold allOps; exact List.mem_append.2 (.inr (List.mem_flatten.2 ⟨l.ops, List.mem_map.2 ⟨l, hl, rfl⟩, ho⟩)))
theorem brk_range {t : Table} (hv : Valid t) (hb : brk t = true) : (0 ≤ t.opn ∧ t.opn < t.terms) ∧ (0 ≤ t.cls ∧ t.cls < t.terms) :=
  ⟨hv.range _ (by unfold allOps; rw [if_pos hb]; simp), hv.range _ (by unfold allOps; rw [if_pos hb]; simp)⟩
theorem flat_terms {t : Table} (hv : Valid t) : ∀ q ∈ flatRules t, ∀ s ∈ q.right, s.term = true → 0 ≤ s.n ∧ s.n < t.terms := by
  intro q hq s hs ht
  obtain ⟨i, hi⟩ := List.mem_iff_getElem?.1 hq
  obtain ⟨v, _, h⟩ := flat_row t i q hi
  rcases h with ⟨_, h | ⟨hb, h⟩⟩ | ⟨k, l, op, _, hl, ho, rfl⟩
  · rw [h] at hs
    simp at hs; subst hs
    exact hv.atom
  · rw [h] at hs
    have := brk_range hv hb
    simp at hs
    rcases hs with rfl | rfl | rfl
    · exact this.1
    · simp at ht
    · exact this.2
  · have := op_range hv (List.mem_of_getElem? hl) ho
    unfold opRule at hs
    dsimp only at hs
    split at hs
    · simp at hs
      rcases hs with rfl | rfl
      · exact this
      · simp at ht
    · simp at hs
      rcases hs with rfl | rfl | rfl
      · simp at ht
      · exact this
      · simp at ht
theorem lay_terms {t : Table} (hv : Valid t) : ∀ q ∈ layRules (brk t) t, ∀ s ∈ q.right, s.term = true → 0 ≤ s.n ∧ s.n < t.terms := by
  intro q hq s hs ht
  unfold layRules at hq
  rcases List.mem_append.1 hq with hq | hq
  · obtain ⟨i, hi⟩ := List.mem_iff_getElem?.1 hq
    rcases lay_get t.levels 0 0 i q hi with ⟨j, m, l, op, g1, g2, rfl, _⟩ | ⟨j, _, rfl, _⟩
    · have := op_range hv (List.mem_of_getElem? g1) g2
      unfold layRule at hs
      dsimp only at hs
      split at hs
      · simp at hs
        rcases hs with rfl | rfl | rfl <;> first | exact this | simp at ht
      · split at hs
        · simp at hs
          rcases hs with rfl | rfl | rfl <;> first | exact this | simp at ht
        · split at hs
          · simp at hs
            rcases hs with rfl | rfl | rfl <;> first | exact this | simp at ht
          · simp at hs
            rcases hs with rfl | rfl <;> first | exact this | simp at ht
    · simp at hs; subst hs; simp at ht
  · unfold layTailR at hq
    cases hb : brk t
    · rw [hb] at hq
      simp at hq; subst hq
      simp at hs; subst hs
      exact hv.atom
    · rw [hb] at hq
      have := brk_range hv hb
      simp at hq
      rcases hq with rfl | rfl
      · simp at hs; subst hs
        exact hv.atom
      · simp at hs
        rcases hs with rfl | rfl | rfl
        · exact this.1
        · simp at ht
        · exact this.2
end Go.Proofs.YtjdojogjogenkaaDoor
