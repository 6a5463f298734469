/- What stands in Null and First, in words that name no way of computing it: the program's sets, the table of lengths and the reference's relation between symbols agree. No program is named here. -/
import Derived.Test.YtecofoilghdedaaQStable
import Derived.Test.YtecofoilghdedaaQp1
namespace Go.Proofs.Ytecofoilghdedaa
open Go.RowKit
set_option linter.unusedVariables false

/-- A nonterminal that becomes empty. -/
inductive Nul (g : Gram) : Nat → Prop where
  | mk (q : Rule) (hq : q ∈ g.rules) (ht : ∀ x ∈ q.right, x.term = false) (h : ∀ x ∈ q.right, Nul g x.n.toNat) : Nul g q.left.toNat
theorem Nul.of {g : Gram} {q : Rule} (hq : q ∈ g.rules) (h : ∀ x ∈ q.right, x.term = false ∧ Nul g x.n.toNat) : Nul g q.left.toNat := .mk q hq (fun x hx => (h x hx).1) (fun x hx => (h x hx).2)
/-- All symbols become empty. -/
def Nuls (g : Gram) (l : List Sym) : Prop := ∀ x ∈ l, x.term = false ∧ Nul g x.n.toNat
def nodeS (m : Nat) (s : Sym) : Nat := if s.term then s.n.toNat else m + s.n.toNat

/-! The table of lengths. -/
theorem sumR_zero {l : List Int} : ∀ (ss : List Sym), sumR l 0 ss = 0 ↔ ∀ s ∈ ss, s.term = false ∧ l.getD s.n.toNat 0 = 0
  | [] => by simp [sumR]
  | s :: ss => by
    have ih := sumR_zero (l := l) ss
    rw [sumR_cons l s ss 0 (Int.le_refl 0)]
    constructor
    · intro h
      split at h
      · rename_i hp
        have h1 := sumR_from l ss (0 + partR l s) (by omega) (by omega)
        have h2 : partR l s = 0 := by omega
        rw [h2, Int.add_zero] at h
        have h3 : s.term = false ∧ l.getD s.n.toNat 0 = 0 := by
          unfold partR at h2
          cases hs : s.term
          · rw [hs] at h2; exact ⟨rfl, by simpa using h2⟩
          · rw [hs] at h2; simp at h2
        intro x hx
        rcases List.mem_cons.1 hx with rfl | hx
        · exact h3
        · exact ih.1 h x hx
      · omega
    · intro h
      obtain ⟨h1, h2⟩ := h s (by simp)
      have h3 : partR l s = 0 := by unfold partR; rw [h1]; simpa using h2
      rw [h3, if_pos (Int.le_refl 0), Int.add_zero]
      exact ih.2 fun x hx => h x (by simp [hx])
theorem LFix.nul {g : Gram} {n : Nat} {l : List Int} (h : LFix g n l) (hr : RulesIn g n) {x : Nat} (hx : x < n) : l.getD x 0 = 0 ↔ Nul g x := by
  constructor
  · intro h0
    obtain ⟨T, hT⟩ := h.rank (fun q hq => (hr q hq).2.1)
    have key : ∀ (t x : Nat), T x = t → x < n → l.getD x 0 = 0 → Nul g x := by
      intro t
      induction t using Nat.strongRecOn with
      | _ t ih =>
        intro x ht hx h0
        obtain ⟨q, hq, hql, hs, hp⟩ := hT x hx (by omega)
        rw [h0] at hs
        have h1 := (sumR_zero q.right).1 hs
        rw [← hql]
        exact .of hq fun y hy => ⟨(h1 y hy).1, ih (T y.n.toNat) (by rw [← ht]; exact hp y hy (h1 y hy).1) y.n.toNat rfl ((hr q hq).2.2.2 y hy |>.2 (h1 y hy).1) (h1 y hy).2⟩
    exact key _ x rfl hx h0
  · intro hN
    clear hx
    induction hN with
    | mk q hq hh _ ih =>
      have h1 : sumR l 0 q.right = 0 := (sumR_zero q.right).2 fun y hy => ⟨hh y hy, ih y hy⟩
      have h2 := h.low hq (hr q hq).2.1 (by omega)
      omega

/-! What Of computes. -/
theorem ofFrom_snd {e : List Bool} {f : List (List Bool)} : ∀ (l : List Sym) (out : List Bool), (ofFrom e f out l).2 = true ↔ ∀ x ∈ l, x.term = false ∧ e.getD x.n.toNat false = true
  | [], out => by simp [ofFrom]
  | x :: xs, out => by
    unfold ofFrom
    cases ht : x.term
    · cases he : e.getD x.n.toNat false
      · simp only [Bool.false_eq_true, if_false]
        exact ⟨fun h => (by cases h), fun h => (by have := (h x (by simp)).2; rw [he] at this; cases this)⟩
      · have ih := ofFrom_snd (e := e) (f := f) xs (orRow out (f.getD x.n.toNat []))
        simp only [Bool.false_eq_true, if_false, if_true]
        rw [ih]
        refine ⟨fun h y hy => ?_, fun h y hy => h y (by simp [hy])⟩
        rcases List.mem_cons.1 hy with rfl | hy
        · exact ⟨ht, he⟩
        · exact h y hy
    · simp only [if_true]
      exact ⟨fun h => (by cases h), fun h => (by have := (h x (by simp)).1; rw [ht] at this; cases this)⟩
/-- t stands first in x. -/
def InX (f : List (List Bool)) (x : Sym) (t : Nat) : Prop := if x.term then x.n.toNat = t else (f.getD x.n.toNat [])[t]? = some true
theorem ofFrom_fst {m : Nat} {e : List Bool} {f : List (List Bool)} (hrow : ∀ r ∈ f, r.length = m) : ∀ (l : List Sym) (out : List Bool), out.length = m → (∀ x ∈ l, x.term = false → x.n.toNat < f.length) → ∀ t, t < m →
    ((ofFrom e f out l).1[t]? = some true ↔ out[t]? = some true ∨ ∃ (i : Nat) (x : Sym), l[i]? = some x ∧ (∀ y ∈ l.take i, y.term = false ∧ e.getD y.n.toNat false = true) ∧ InX f x t)
  | [], out, _, _, t, _ => by simp [ofFrom]
  | x :: xs, out, hl, hx, t, ht => by
    have hor : x.term = false → ∀ (a : List Bool), a.length = m → ((orRow a (f.getD x.n.toNat []))[t]? = some true ↔ a[t]? = some true ∨ InX f x t) := fun hxt a ha => by
      unfold InX
      rw [if_neg (by simp [hxt])]
      have hlt := hx x (by simp) hxt
      have hfl : (f.getD x.n.toNat []).length = m := by
        rw [List.getD_eq_getElem?_getD, List.getElem?_eq_getElem hlt]
        exact hrow _ (List.getElem_mem hlt)
      exact ⟨fun h => orRow_or _ _ _ h, fun h => h.elim (fun h => orRow_left _ _ _ h) (fun h => orRow_right _ _ _ (by omega) h)⟩
    have first : InX f x t → ∃ (i : Nat) (y : Sym), (x :: xs)[i]? = some y ∧ (∀ z ∈ (x :: xs).take i, z.term = false ∧ e.getD z.n.toNat false = true) ∧ InX f y t := fun h => ⟨0, x, rfl, by simp, h⟩
    unfold ofFrom
    cases hxt : x.term
    · simp only [Bool.false_eq_true, if_false]
      have ho := hor hxt out hl
      cases he : e.getD x.n.toNat false
      · simp only [Bool.false_eq_true, if_false]
        rw [ho]
        constructor
        · rintro (h | h)
          · exact .inl h
          · exact .inr (first h)
        · rintro (h | ⟨i, y, hi, hp, hy⟩)
          · exact .inl h
          · cases i with
            | zero => simp at hi; subst hi; exact .inr hy
            | succ i => have := (hp x (by simp)).2; rw [he] at this; cases this
      · simp only [if_true]
        rw [ofFrom_fst hrow xs _ (by rw [orRow_len]; exact hl) (fun y hy => hx y (by simp [hy])) t ht, ho]
        constructor
        · rintro ((h | h) | ⟨i, y, hi, hp, hy⟩)
          · exact .inl h
          · exact .inr (first h)
          · exact .inr ⟨i + 1, y, by simpa using hi, fun z hz => by
              rw [List.take_succ_cons] at hz
              rcases List.mem_cons.1 hz with rfl | hz
              · exact ⟨hxt, he⟩
              · exact hp z hz, hy⟩
        · rintro (h | ⟨i, y, hi, hp, hy⟩)
          · exact .inl (.inl h)
          · cases i with
            | zero => simp at hi; subst hi; exact .inl (.inr hy)
            | succ i => exact .inr ⟨i, y, by simpa using hi, fun z hz => hp z (by rw [List.take_succ_cons]; exact List.mem_cons_of_mem _ hz), hy⟩
    · simp only [if_true]
      rw [List.getElem?_set]
      have hX : InX f x t ↔ x.n.toNat = t := by unfold InX; rw [hxt]; simp
      constructor
      · intro h
        split at h
        · rename_i e1
          exact .inr (first (hX.2 e1))
        · exact .inl h
      · rintro (h | ⟨i, y, hi, hp, hy⟩)
        · split
          · rw [if_pos (by omega)]
          · exact h
        · cases i with
          | zero =>
            simp at hi; subst hi
            rw [if_pos (hX.1 hy), if_pos (by have := hX.1 hy; omega)]
          | succ i => have := (hp x (by simp)).1; rw [hxt] at this; cases this

/-! The sets that the program computes. -/
/-- A step from a nonterminal to a symbol that stands first in a rule of its own. -/
def EdgF (g : Gram) (m a b : Nat) : Prop := ∃ (q : Rule) (i : Nat) (x : Sym), q ∈ g.rules ∧ q.right[i]? = some x ∧ Nuls g (q.right.take i) ∧ a = m + q.left.toNat ∧ b = nodeS m x
inductive WkF (g : Gram) (m : Nat) : Nat → Nat → Prop where
  | refl (a : Nat) : WkF g m a a
  | head (a b c : Nat) (hs : EdgF g m a b) (h : WkF g m b c) : WkF g m a c
theorem WkF.term {g : Gram} {m a t : Nat} (ha : a < m) (h : WkF g m a t) : a = t := by
  cases h with
  | refl => rfl
  | head _ b _ hs _ => obtain ⟨q, i, x, _, _, _, e, _⟩ := hs; omega
theorem WkF.trans {g : Gram} {m a b c : Nat} (h : WkF g m a b) (k : WkF g m b c) : WkF g m a c := by
  induction h with
  | refl => exact k
  | head a b _ hs _ ih => exact .head a b _ hs (ih k)

/-- On the way: what is true is meant. -/
def MeantS (g : Gram) (m : Nat) (s : List Bool × List (List Bool)) : Prop := (∀ x : Nat, s.1[x]? = some true → Nul g x) ∧ ∀ x t : Nat, Gt s.2 x t → WkF g m (m + x) t
theorem getD_some_true {l : List Bool} {k : Nat} : l.getD k false = true ↔ l[k]? = some true := by
  rw [List.getD_eq_getElem?_getD]
  cases l[k]? <;> simp
theorem inX_meant {g : Gram} {m : Nat} {s : List Bool × List (List Bool)} (h : MeantS g m s) {x : Sym} {t : Nat} (hx : InX s.2 x t) : WkF g m (nodeS m x) t := by
  unfold InX at hx
  unfold nodeS
  split
  · rename_i e; rw [if_pos e] at hx; rw [hx]; exact .refl _
  · rename_i e; rw [if_neg e] at hx; exact h.2 _ _ hx
theorem MeantS.step {g : Gram} {m n : Nat} {s : List Bool × List (List Bool)} (h : MeantS g m s) (hsh : Shape m n s) (hn : ∀ q ∈ g.rules, q.left.toNat < n ∧ ∀ x ∈ q.right, x.term = false → x.n.toNat < n) (q : Rule) (hq : q ∈ g.rules) : MeantS g m (stepR m q s) := by
  obtain ⟨hql, hqr⟩ := hn q hq
  have hrow : ∀ r ∈ s.2, r.length = m := fun r hr => by
    obtain ⟨i, hi, rfl⟩ := List.getElem_of_mem hr
    exact hsh.rows i _ (List.getElem?_eq_getElem hi)
  refine ⟨fun x hx => ?_, fun x t hx => ?_⟩
  · unfold stepR at hx
    dsimp only at hx
    split at hx
    · rename_i he
      rw [List.getElem?_set] at hx
      split at hx
      · rename_i e
        rw [← e]
        have h1 := (ofFrom_snd q.right (List.replicate m false)).1 he
        exact .of hq fun y hy => ⟨(h1 y hy).1, h.1 _ (getD_some_true.1 (h1 y hy).2)⟩
      · exact h.1 x hx
    · exact h.1 x hx
  · unfold stepR Gt at hx
    dsimp only at hx
    rw [List.getD_eq_getElem?_getD, List.getElem?_set] at hx
    split at hx
    · rename_i e
      subst e
      rw [if_pos (by rw [hsh.f]; exact hql)] at hx
      simp only [Option.getD_some] at hx
      rcases orRow_or _ _ _ hx with hx | hx
      · exact h.2 _ _ hx
      · have ht : t < m := by have := (List.getElem?_eq_some_iff.1 hx).1; rw [ofFrom_len, List.length_replicate] at this; exact this
        rcases (ofFrom_fst hrow q.right (List.replicate m false) (by simp) (fun x hx hxt => by rw [hsh.f]; exact hqr x hx hxt) t ht).1 hx with h1 | ⟨i, y, hi, hp, hy⟩
        · rw [List.getElem?_replicate] at h1; split at h1 <;> simp at h1
        · exact .head _ (nodeS m y) _ ⟨q, i, y, hq, hi, fun z hz => ⟨(hp z hz).1, h.1 _ (getD_some_true.1 (hp z hz).2)⟩, rfl, rfl⟩ (inX_meant h hy)
    · rw [← List.getD_eq_getElem?_getD] at hx
      exact h.2 _ _ hx
theorem MeantS.pass {g : Gram} {m n : Nat} (hn : ∀ q ∈ g.rules, q.left.toNat < n ∧ ∀ x ∈ q.right, x.term = false → x.n.toNat < n) : ∀ (rs : List Rule) (s : List Bool × List (List Bool)), (∀ q ∈ rs, q ∈ g.rules) → MeantS g m s → Shape m n s → MeantS g m (passR m rs s) ∧ Shape m n (passR m rs s)
  | [], s, _, h, hs => ⟨h, hs⟩
  | q :: rs, s, hr, h, hs => MeantS.pass hn rs (stepR m q s) (fun x hx => hr x (by simp [hx])) (h.step hs hn q (hr q (by simp))) (hs.step q (hn q (hr q (by simp))).1)
theorem MeantS.iter {g : Gram} {m n : Nat} (hn : ∀ q ∈ g.rules, q.left.toNat < n ∧ ∀ x ∈ q.right, x.term = false → x.n.toNat < n) : ∀ k, MeantS g m (iterR m g.rules k (initS m n)) ∧ Shape m n (iterR m g.rules k (initS m n))
  | 0 => ⟨⟨fun x hx => by simp [iterR, initS, List.getElem?_replicate] at hx, fun x t hx => by
      unfold Gt at hx
      simp only [iterR, initS] at hx
      rw [List.getD_eq_getElem?_getD, List.getElem?_replicate] at hx
      split at hx
      · simp [List.getElem?_replicate] at hx
      · simp at hx⟩, Shape.init m n⟩
  | k + 1 => by
    obtain ⟨h1, h2⟩ := MeantS.iter hn k
    exact MeantS.pass hn g.rules _ (fun q hq => hq) h1 h2
/-- Null and First are what is meant. -/
theorem Stable.meant {g : Gram} {m n : Nat} {e : List Bool} {f : List (List Bool)} (h : Stable g m n e f) (hn : ∀ q ∈ g.rules, q.left.toNat < n ∧ ∀ x ∈ q.right, (x.term = false → x.n.toNat < n) ∧ (x.term = true → x.n.toNat < m)) :
    (∀ x : Nat, e[x]? = some true ↔ Nul g x) ∧ ∀ x t : Nat, t < m → (Gt f x t ↔ WkF g m (m + x) t) := by
  have hn' : ∀ q ∈ g.rules, q.left.toNat < n ∧ ∀ x ∈ q.right, x.term = false → x.n.toNat < n := fun q hq => ⟨(hn q hq).1, fun x hx => ((hn q hq).2 x hx).1⟩
  have hM : MeantS g m (e, f) := by
    obtain ⟨k, hk⟩ := h.iter
    rw [hk]
    exact (MeantS.iter hn' k).1
  have hsh := h.shape
  have hrow : ∀ r ∈ f, r.length = m := fun r hr => by
    obtain ⟨i, hi, rfl⟩ := List.getElem_of_mem hr
    exact hsh.rows i _ (List.getElem?_eq_getElem hi)
  have hE : ∀ x : Nat, Nul g x → e[x]? = some true := fun x hx => by
    induction hx with
    | mk q hq hh _ ih =>
      have h2 := congrArg (fun s => s.1) (h.fix q hq)
      simp only [stepR] at h2
      rw [if_pos ((ofFrom_snd q.right _).2 fun y hy => ⟨hh y hy, getD_some_true.2 (ih y hy)⟩)] at h2
      rw [← h2, List.getElem?_set, if_pos rfl, if_pos (by have := hsh.e; simp at this; rw [this]; exact (hn q hq).1)]
  refine ⟨fun x => ⟨hM.1 x, hE x⟩, fun x t ht => ?_⟩
  have key : ∀ a : Nat, WkF g m a t → (∀ x : Nat, a = m + x → Gt f x t) ∧ (a < m → a = t) := by
    intro a ha
    induction ha with
    | refl a => exact ⟨fun x hx => by omega, fun _ => rfl⟩
    | head a b c hs _ ih =>
      obtain ⟨q, i, y, hq, hi, hp, rfl, rfl⟩ := hs
      obtain ⟨i1, i2⟩ := ih ht
      refine ⟨fun x hx => ?_, fun hlt => by omega⟩
      have ex : x = q.left.toNat := by omega
      subst ex
      have hqf : q.left.toNat < f.length := by have := hsh.f; simp at this; rw [this]; exact (hn q hq).1
      have hym := List.mem_of_getElem? hi
      have hin : InX f y c := by
        unfold InX
        cases hy : y.term
        · simp only [Bool.false_eq_true, if_false]
          exact i1 y.n.toNat (by unfold nodeS; rw [hy]; rfl)
        · simp only [if_true]
          have e1 : nodeS m y = y.n.toNat := by unfold nodeS; rw [hy]; rfl
          rw [e1] at i2
          exact i2 (((hn q hq).2 y hym).2 hy)
      have h3 : (ofFrom e f (List.replicate m false) q.right).1[c]? = some true :=
        (ofFrom_fst hrow q.right (List.replicate m false) (by simp) (fun x hx hxt => by have := hsh.f; simp at this; rw [this]; exact ((hn q hq).2 x hx).1 hxt) c ht).2 (.inr ⟨i, y, hi, fun z hz => ⟨(hp z hz).1, getD_some_true.2 (hE _ (hp z hz).2)⟩, hin⟩)
      have h2 := congrArg (fun s => s.2[q.left.toNat]?) (h.fix q hq)
      simp only [stepR, List.getElem?_set] at h2
      rw [if_pos trivial, if_pos hqf] at h2
      unfold Gt
      rw [List.getD_eq_getElem?_getD, ← h2]
      simp only [Option.getD_some]
      refine orRow_right _ _ _ ?_ h3
      rw [ofFrom_len, List.length_replicate, List.getD_eq_getElem?_getD, List.getElem?_eq_getElem hqf]
      exact hsh.rows _ _ (List.getElem?_eq_getElem hqf)
  exact ⟨hM.2 x t, fun hw => (key _ hw).1 x rfl⟩
end Go.Proofs.Ytecofoilghdedaa
