/- Plain law: a word has at most one tree in the layered grammar. No program is named here. -/
import Derived.Test.YtjdojogjogenkaaDoorQPrecBackP
import Derived.Test.YtjdojogjogenkaaDoorQp1
import Derived.Test.YtjdojogjogenkaaDoorQp2
namespace Go.Proofs.YtjdojogjogenkaaDoor
open Go.RowKit
set_option linter.unusedVariables false

theorem layFrom_left : ∀ (ls : List Level) (k i : Nat) (q : Rule), (layFrom k ls)[i]? = some q → (k : Int) ≤ q.left ∧ q.left < ((k + ls.length : Nat) : Int)
  | [], k, i, q, h => by simp [layFrom] at h
  | l :: ls, k, i, q, h => by
    unfold layFrom at h
    simp only [List.length_cons]
    rcases Nat.lt_or_ge i l.ops.length with hlt | hge
    · rw [List.getElem?_append_left (by simpa using hlt), List.getElem?_map] at h
      obtain ⟨o, ho⟩ := get_some hlt
      rw [ho] at h
      simp only [Option.map_some, Option.some.injEq] at h
      subst h
      simp only [layRule]
      omega
    · rw [List.getElem?_append_right (by simpa using hge)] at h
      simp only [List.length_map] at h
      cases hi : i - l.ops.length with
      | zero =>
        rw [hi] at h
        simp only [List.getElem?_cons_zero, Option.some.injEq] at h
        subst h
        simp only
        omega
      | succ i' =>
        rw [hi] at h
        simp only [List.getElem?_cons_succ] at h
        have := layFrom_left ls (k + 1) i' q h
        omega
theorem layFrom_inj : ∀ (ls : List Level) (k r i j : Nat) (q p : Rule), (layFrom k ls)[i]? = some q → (layFrom k ls)[j]? = some p → q.left = p.left → (toFrom (r : Int) ls)[i]? = (toFrom (r : Int) ls)[j]? → i = j
  | [], k, r, i, j, q, p, h, _, _, _ => by simp [layFrom] at h
  | l :: ls, k, r, i, j, q, p, hi, hj, hl, ht => by
    have key : ∀ (i : Nat) (q : Rule), (layFrom k (l :: ls))[i]? = some q → (i < l.ops.length ∧ q.left = (k : Int) ∧ (toFrom (r : Int) (l :: ls))[i]? = some ((r : Int) + (i : Int))) ∨ (i = l.ops.length ∧ q.left = (k : Int) ∧ (toFrom (r : Int) (l :: ls))[i]? = some (-1)) ∨ (∃ m, i = l.ops.length + 1 + m ∧ (layFrom (k + 1) ls)[m]? = some q ∧ (toFrom (r : Int) (l :: ls))[i]? = (toFrom ((r + l.ops.length : Nat) : Int) ls)[m]?) := by
      intro i q h
      unfold layFrom at h
      have eT : toFrom (r : Int) (l :: ls) = nums r l.ops ++ (-1 :: toFrom ((r : Int) + (l.ops.length : Int)) ls) := rfl
      rw [eT]
      rcases Nat.lt_or_ge i l.ops.length with hlt | hge
      · rw [List.getElem?_append_left (by simpa using hlt), List.getElem?_map] at h
        obtain ⟨o, ho⟩ := get_some hlt
        rw [ho] at h
        simp only [Option.map_some, Option.some.injEq] at h
        refine .inl ⟨hlt, by rw [← h]; rfl, ?_⟩
        rw [List.getElem?_append_left (by rw [nums_len]; exact hlt), nums_get _ _ _ _ ho]
      · rw [List.getElem?_append_right (by simpa using hge)] at h
        rw [List.getElem?_append_right (by rw [nums_len]; exact hge), nums_len]
        simp only [List.length_map] at h
        cases hi : i - l.ops.length with
        | zero =>
          rw [hi] at h
          simp only [List.getElem?_cons_zero, Option.some.injEq] at h
          exact .inr (.inl ⟨by omega, by rw [← h], by simp⟩)
        | succ m =>
          rw [hi] at h
          simp only [List.getElem?_cons_succ] at h ⊢
          exact .inr (.inr ⟨m, by omega, h, by rw [Int.natCast_add]⟩)
    rcases key i q hi with ⟨a1, a2, a3⟩ | ⟨a1, a2, a3⟩ | ⟨m, a1, a2, a3⟩ <;> rcases key j p hj with ⟨b1, b2, b3⟩ | ⟨b1, b2, b3⟩ | ⟨n, b1, b2, b3⟩
    · rw [a3, b3, Option.some.injEq] at ht; omega
    · rw [a3, b3, Option.some.injEq] at ht; omega
    · have := layFrom_left ls (k + 1) n p b2; omega
    · rw [a3, b3, Option.some.injEq] at ht; omega
    · omega
    · have := layFrom_left ls (k + 1) n p b2; omega
    · have := layFrom_left ls (k + 1) m q a2; omega
    · have := layFrom_left ls (k + 1) m q a2; omega
    · have := layFrom_inj ls (k + 1) (r + l.ops.length) m n q p a2 b2 hl (by rw [← a3, ← b3, ht])
      omega
theorem layRules_inj {t : Table} {b : Bool} {i j : Nat} {q p : Rule} (hi : (layRules b t)[i]? = some q) (hj : (layRules b t)[j]? = some p) (hl : q.left = p.left) (ht : (layTo b t)[i]? = (layTo b t)[j]?) : i = j := by
  unfold layRules at hi hj
  unfold layTo at ht
  obtain ⟨base, hbase⟩ : ∃ base : Nat, (if b then (2 : Int) else 1) = (base : Int) := by cases b; exact ⟨1, rfl⟩; exact ⟨2, rfl⟩
  rw [hbase] at ht
  have hln : (layFrom 0 t.levels).length = (toFrom (base : Int) t.levels).length := by rw [layFrom_len, toFrom_len]
  have tail : ∀ (m : Nat) (q : Rule), (layTailR b t)[m]? = some q → q.left = (t.levels.length : Int) ∧ (layTailL b)[m]? = some (m : Int) := by
    intro m q h
    unfold layTailR at h
    unfold layTailL
    match m, h with
    | 0, h => simp at h; subst h; simp
    | 1, h => cases b <;> simp at h; subst h; simp
    | m + 2, h => cases b <;> simp at h
  rcases Nat.lt_or_ge i (layFrom 0 t.levels).length with hi' | hi' <;> rcases Nat.lt_or_ge j (layFrom 0 t.levels).length with hj' | hj'
  · rw [List.getElem?_append_left hi'] at hi
    rw [List.getElem?_append_left hj'] at hj
    rw [List.getElem?_append_left (by omega), List.getElem?_append_left (by omega)] at ht
    exact layFrom_inj _ _ _ _ _ _ _ hi hj hl ht
  · rw [List.getElem?_append_left hi'] at hi
    rw [List.getElem?_append_right hj'] at hj
    have h1 := layFrom_left _ _ _ _ hi
    have h2 := (tail _ _ hj).1
    omega
  · rw [List.getElem?_append_right hi'] at hi
    rw [List.getElem?_append_left hj'] at hj
    have h1 := layFrom_left _ _ _ _ hj
    have h2 := (tail _ _ hi).1
    omega
  · rw [List.getElem?_append_right hi'] at hi
    rw [List.getElem?_append_right hj'] at hj
    rw [List.getElem?_append_right (by omega), List.getElem?_append_right (by omega), ← hln, (tail _ _ hi).2, (tail _ _ hj).2, Option.some.injEq] at ht
    omega

theorem backs_inj {g : Gram} {tos : List Int} : ∀ (ks : List Tree) (ss : List Sym) (ls : List Tree), (∀ x ∈ ks, ∀ k, vt g x ⟨false, k⟩ → ∀ y, vt g y ⟨false, k⟩ → backT tos x = backT tos y → x = y) → vts g ks ss → vts g ls ss → backL tos ks = backL tos ls → ks = ls
  | [], [], [], _, _, _, _ => rfl
  | [], [], _ :: _, _, _, h, _ => by simp [vts] at h
  | [], _ :: _, _, _, h, _, _ => by simp [vts] at h
  | _ :: _, [], _, _, h, _, _ => by simp [vts] at h
  | _ :: _, _ :: _, [], _, _, h, _ => by simp [vts] at h
  | x :: ks, ⟨st, sn⟩ :: ss, y :: ls, ih, hx, hy, he => by
    simp only [vts] at hx hy
    simp only [backL, List.cons.injEq] at he
    have e2 := backs_inj ks ss ls (fun x h => ih x (by simp [h])) hx.2 hy.2 he.2
    cases st
    · rw [ih x (by simp) sn hx.1 y hy.1 he.1, e2]
    · rw [vt_leaf hx.1, vt_leaf hy.1, e2]
theorem backT_inj {t : Table} (hv : Valid t) {g : Gram} (hg : g.rules = layRules (brk t) t) : ∀ (x : Tree) (k : Int), vt g x ⟨false, k⟩ → ∀ y, vt g y ⟨false, k⟩ → backT (layTo (brk t) t) x = backT (layTo (brk t) t) y → x = y := by
  refine Tree.ind ?_
  intro r z ks ih k hx y hy he
  obtain ⟨r', z', ls⟩ := y
  have law : ∀ (y : Tree) (k : Int), vt g y ⟨false, k⟩ → k ≤ levE t (backT (layTo (brk t) t) y).rule := fun y k h => (back_law hv hg (f := ⟨0, 0, 0, flatRules t⟩) rfl y k h).lev
  have ord : ∀ {R k : Int} {ks : List Tree}, KidsY t g ks k R → 0 ≤ R → levE t R = k := by
    intro R k ks h h0
    cases h with
    | atom hk hR e => subst hR; rw [hk]; exact levE_of (i := 0) rfl rfl
    | brk hk hR hb y hy e => subst hR; rw [hk]; exact levE_of (i := 1) (by unfold flatLev; rw [hb]; rfl) rfl
    | unit h1 h2 hR => omega
    | op j m l op hk hl ho hR hf hlv hks => subst hR; subst hk; exact levE_of hlv (by simp)
  have neg : ∀ {R k : Int} {ks : List Tree}, KidsY t g ks k R → ¬ 0 ≤ R → R = -1 ∧ ∃ y, ks = [y] ∧ vt g y ⟨false, k + 1⟩ := by
    intro R k ks h h0
    cases h with
    | atom hk hR e => omega
    | brk hk hR hb y hy e => omega
    | unit h1 h2 hR y hy e => exact ⟨hR, y, e, hy⟩
    | op j m l op hk hl ho hR hf hlv hks => omega
  obtain ⟨hr, rfl, R, hR, hk⟩ := lay_node hg hx
  obtain ⟨hr', rfl, R', hR', hk'⟩ := lay_node hg hy
  have hb : ∀ {r R : Int} {ks : List Tree}, 0 ≤ r → (layTo (brk t) t)[r.toNat]? = some R → 0 ≤ R → backT (layTo (brk t) t) ⟨r, 0, ks⟩ = ⟨R, 0, backL (layTo (brk t) t) ks⟩ := by
    intro r R ks h0 h1 h2
    have e : (layTo (brk t) t).getD r.toNat 0 = R := by rw [List.getD_eq_getElem?_getD, h1]; rfl
    rw [backT, if_neg (by omega), e, if_neg (by omega)]
  have hu : ∀ {r R : Int} {y : Tree}, 0 ≤ r → (layTo (brk t) t)[r.toNat]? = some R → R = -1 → backT (layTo (brk t) t) ⟨r, 0, [y]⟩ = backT (layTo (brk t) t) y := by
    intro r R y h0 h1 h2
    have e : (layTo (brk t) t).getD r.toNat 0 = R := by rw [List.getD_eq_getElem?_getD, h1]; rfl
    rw [backT, if_neg (by omega), e, if_pos (by omega)]
    rfl
  have hrr : R = R' → r = r' := by
    intro e
    unfold vt at hx hy
    simp only [Bool.false_eq_true, if_false] at hx hy
    obtain ⟨_, _, q, q1, q2, _⟩ := hx
    obtain ⟨_, _, p, p1, p2, _⟩ := hy
    rw [hg] at q1 p1
    have := layRules_inj q1 p1 (by rw [q2, p2]) (by rw [hR, hR', e])
    omega
  by_cases n1 : 0 ≤ R <;> by_cases n2 : 0 ≤ R'
  · rw [hb hr hR n1, hb hr' hR' n2] at he
    simp only [Tree.mk.injEq] at he
    obtain rfl := hrr he.1
    unfold vt at hx hy
    simp only [Bool.false_eq_true, if_false] at hx hy
    obtain ⟨_, _, q, q1, q2, q3⟩ := hx
    obtain ⟨_, _, p, p1, p2, p3⟩ := hy
    rw [q1, Option.some.injEq] at p1
    subst p1
    rw [backs_inj ks q.right ls (fun x h => ih x h) q3 p3 he.2.2]
  · obtain ⟨e1, y, rfl, hy1⟩ := neg hk' n2
    rw [hu hr' hR' e1, hb hr hR n1] at he
    have h1 := law y _ hy1
    rw [← he] at h1
    have h2 := ord hk n1
    have h1 : k + 1 ≤ levE t R := h1
    omega
  · obtain ⟨e1, x, rfl, hx1⟩ := neg hk n1
    rw [hu hr hR e1, hb hr' hR' n2] at he
    have h1 := law x _ hx1
    rw [he] at h1
    have h2 := ord hk' n2
    have h1 : k + 1 ≤ levE t R' := h1
    omega
  · obtain ⟨e1, x, rfl, hx1⟩ := neg hk n1
    obtain ⟨e2, y, rfl, hy1⟩ := neg hk' n2
    rw [hu hr hR e1, hu hr' hR' e2] at he
    rw [ih x (by simp) _ hx1 y hy1 he, hrr (by rw [e1, e2])]

/-- A word has at most one tree in the layered grammar. -/
theorem lay_uniq {t : Table} (h0 : precCheck t = 0) {w : List Int} {x y : Tree} (hx : TreesOf (layG t) w x) (hy : TreesOf (layG t) w y) : x = y := by
  have hv := valid_of h0
  have eG : layG t = ⟨t.terms, (t.levels.length : Int) + 1, 0, layRules (brk t) t⟩ := by unfold layG; rw [if_pos h0]
  obtain ⟨x1, x2⟩ := hx
  obtain ⟨y1, y2⟩ := hy
  have hs : (layG t).start = 0 := by rw [eG]
  have hg : (layG t).rules = layRules (brk t) t := by rw [eG]
  rw [hs] at x1 y1
  have a := back_law hv hg (f := ⟨0, 0, 0, flatRules t⟩) rfl x 0 x1
  have b := back_law hv hg (f := ⟨0, 0, 0, flatRules t⟩) rfl y 0 y1
  obtain ⟨n, p1⟩ := allow_climb hv (f := ⟨0, 0, 0, flatRules t⟩) rfl a.isT a.allow
  obtain ⟨m, p2⟩ := allow_climb hv (f := ⟨0, 0, 0, flatRules t⟩) rfl b.isT b.allow
  rw [a.same, x2] at p1
  rw [b.same, y2] at p2
  have e := par_same hv.apart.ao n m 0 0 _ _ p1 p2 (fun i _ => rfl)
  simp only [Res.ok.injEq] at e
  exact backT_inj hv hg x 0 x1 y y1 e.1
end Go.Proofs.YtjdojogjogenkaaDoor
