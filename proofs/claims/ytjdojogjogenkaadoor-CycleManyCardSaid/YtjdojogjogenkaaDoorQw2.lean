/- Contracts of this proof, of several texts joined: FstP, CycP, Union, Sets, ConcatSym, ContInt, IdxTree3, ContBool, Make, Has, WhereP, CmpZero, Yield, Of, Works. -/
import Derived.Test.YtjdojogjogenkaaDoorQw1
import Derived.Test.YtjdojogjogenkaaDoorQp2
import Derived.Test.YtjdojogjogenkaaDoorQp1
import Derived.Deep.QuietTactic
import Derived.BigQuiet
import Derived.Deep.RegionHeld3
import Derived.Test.YtjdojogjogenkaaDoorChecked
import Derived.Laws.EntriesVeiled
/- What stands in Null and First, in words that name no way of computing it: the program's sets, the table of lengths and the reference's relation between symbols agree. No program is named here. -/
namespace Go.Proofs.YtjdojogjogenkaaDoor
open Go.RowKit
set_option linter.unusedVariables false

/-- A nonterminal that becomes empty. -/
inductive Nul (g : Gram) : Nat → Prop where
  | mk (q : Rule) (hq : q ∈ g.rules) (ht : ∀ x ∈ q.right, x.term = false) (h : ∀ x ∈ q.right, Nul g x.n.toNat) : Nul g q.left.toNat
theorem Nul.of {g : Gram} {q : Rule} (hq : q ∈ g.rules) (h : ∀ x ∈ q.right, x.term = false ∧ Nul g x.n.toNat) : Nul g q.left.toNat := .mk q hq (fun x hx => (h x hx).1) (fun x hx => (h x hx).2)
/-- All symbols become empty. -/
def Nuls (g : Gram) (l : List Sym) : Prop := ∀ x ∈ l, x.term = false ∧ Nul g x.n.toNat
def nodeS (m : Nat) (s : Sym) : Nat := if s.term then s.n.toNat else m + s.n.toNat

/-! The table of lengths. -/
theorem sumR_zero {l : List Int} : ∀ (ss : List Sym), sumR l 0 ss = 0 ↔ ∀ s ∈ ss, s.term = false ∧ l.getD s.n.toNat 0 = 0
  | [] => by simp [sumR]
  | s :: ss => by
    have ih := sumR_zero (l := l) ss
    rw [sumR_cons l s ss 0 (Int.le_refl 0)]
    constructor
    · intro h
      split at h
      · rename_i hp
        have h1 := sumR_from l ss (0 + partR l s) (by omega) (by omega)
        have h2 : partR l s = 0 := by omega
        rw [h2, Int.add_zero] at h
        have h3 : s.term = false ∧ l.getD s.n.toNat 0 = 0 := by
          unfold partR at h2
          cases hs : s.term
          · rw [hs] at h2; exact ⟨rfl, by simpa using h2⟩
          · rw [hs] at h2; simp at h2
        intro x hx
        rcases List.mem_cons.1 hx with rfl | hx
        · exact h3
        · exact ih.1 h x hx
      · omega
    · intro h
      obtain ⟨h1, h2⟩ := h s (by simp)
      have h3 : partR l s = 0 := by unfold partR; rw [h1]; simpa using h2
      rw [h3, if_pos (Int.le_refl 0), Int.add_zero]
      exact ih.2 fun x hx => h x (by simp [hx])
theorem LFix.nul {g : Gram} {n : Nat} {l : List Int} (h : LFix g n l) (hr : RulesIn g n) {x : Nat} (hx : x < n) : l.getD x 0 = 0 ↔ Nul g x := by
  constructor
  · intro h0
    obtain ⟨T, hT⟩ := h.rank (fun q hq => (hr q hq).2.1)
    have key : ∀ (t x : Nat), T x = t → x < n → l.getD x 0 = 0 → Nul g x := by
      intro t
      induction t using Nat.strongRecOn with
      | _ t ih =>
        intro x ht hx h0
        obtain ⟨q, hq, hql, hs, hp⟩ := hT x hx (by omega)
        rw [h0] at hs
        have h1 := (sumR_zero q.right).1 hs
        rw [← hql]
        exact .of hq fun y hy => ⟨(h1 y hy).1, ih (T y.n.toNat) (by rw [← ht]; exact hp y hy (h1 y hy).1) y.n.toNat rfl ((hr q hq).2.2.2 y hy |>.2 (h1 y hy).1) (h1 y hy).2⟩
    exact key _ x rfl hx h0
  · intro hN
    clear hx
    induction hN with
    | mk q hq hh _ ih =>
      have h1 : sumR l 0 q.right = 0 := (sumR_zero q.right).2 fun y hy => ⟨hh y hy, ih y hy⟩
      have h2 := h.low hq (hr q hq).2.1 (by omega)
      omega

/-! What Of computes. -/
theorem ofFrom_snd {e : List Bool} {f : List (List Bool)} : ∀ (l : List Sym) (out : List Bool), (ofFrom e f out l).2 = true ↔ ∀ x ∈ l, x.term = false ∧ e.getD x.n.toNat false = true
  | [], out => by simp [ofFrom]
  | x :: xs, out => by
    unfold ofFrom
    cases ht : x.term
    · cases he : e.getD x.n.toNat false
      · simp only [Bool.false_eq_true, if_false]
        exact ⟨fun h => (by cases h), fun h => (by have := (h x (by simp)).2; rw [he] at this; cases this)⟩
      · have ih := ofFrom_snd (e := e) (f := f) xs (orRow out (f.getD x.n.toNat []))
        simp only [Bool.false_eq_true, if_false, if_true]
        rw [ih]
        refine ⟨fun h y hy => ?_, fun h y hy => h y (by simp [hy])⟩
        rcases List.mem_cons.1 hy with rfl | hy
        · exact ⟨ht, he⟩
        · exact h y hy
    · simp only [if_true]
      exact ⟨fun h => (by cases h), fun h => (by have := (h x (by simp)).1; rw [ht] at this; cases this)⟩
/-- t stands first in x. -/
def InX (f : List (List Bool)) (x : Sym) (t : Nat) : Prop := if x.term then x.n.toNat = t else (f.getD x.n.toNat [])[t]? = some true
theorem ofFrom_fst {m : Nat} {e : List Bool} {f : List (List Bool)} (hrow : ∀ r ∈ f, r.length = m) : ∀ (l : List Sym) (out : List Bool), out.length = m → (∀ x ∈ l, x.term = false → x.n.toNat < f.length) → ∀ t, t < m →
    ((ofFrom e f out l).1[t]? = some true ↔ out[t]? = some true ∨ ∃ (i : Nat) (x : Sym), l[i]? = some x ∧ (∀ y ∈ l.take i, y.term = false ∧ e.getD y.n.toNat false = true) ∧ InX f x t)
  | [], out, _, _, t, _ => by simp [ofFrom]
  | x :: xs, out, hl, hx, t, ht => by
    have hor : x.term = false → ∀ (a : List Bool), a.length = m → ((orRow a (f.getD x.n.toNat []))[t]? = some true ↔ a[t]? = some true ∨ InX f x t) := fun hxt a ha => by
      unfold InX
      rw [if_neg (by simp [hxt])]
      have hlt := hx x (by simp) hxt
      have hfl : (f.getD x.n.toNat []).length = m := by
        rw [List.getD_eq_getElem?_getD, List.getElem?_eq_getElem hlt]
        exact hrow _ (List.getElem_mem hlt)
      exact ⟨fun h => orRow_or _ _ _ h, fun h => h.elim (fun h => orRow_left _ _ _ h) (fun h => orRow_right _ _ _ (by omega) h)⟩
    have first : InX f x t → ∃ (i : Nat) (y : Sym), (x :: xs)[i]? = some y ∧ (∀ z ∈ (x :: xs).take i, z.term = false ∧ e.getD z.n.toNat false = true) ∧ InX f y t := fun h => ⟨0, x, rfl, by simp, h⟩
    unfold ofFrom
    cases hxt : x.term
    · simp only [Bool.false_eq_true, if_false]
      have ho := hor hxt out hl
      cases he : e.getD x.n.toNat false
      · simp only [Bool.false_eq_true, if_false]
        rw [ho]
        constructor
        · rintro (h | h)
          · exact .inl h
          · exact .inr (first h)
        · rintro (h | ⟨i, y, hi, hp, hy⟩)
          · exact .inl h
          · cases i with
            | zero => simp at hi; subst hi; exact .inr hy
            | succ i => have := (hp x (by simp)).2; rw [he] at this; cases this
      · simp only [if_true]
        rw [ofFrom_fst hrow xs _ (by rw [orRow_len]; exact hl) (fun y hy => hx y (by simp [hy])) t ht, ho]
        constructor
        · rintro ((h | h) | ⟨i, y, hi, hp, hy⟩)
          · exact .inl h
          · exact .inr (first h)
          · exact .inr ⟨i + 1, y, by simpa using hi, fun z hz => by
              rw [List.take_succ_cons] at hz
              rcases List.mem_cons.1 hz with rfl | hz
              · exact ⟨hxt, he⟩
              · exact hp z hz, hy⟩
        · rintro (h | ⟨i, y, hi, hp, hy⟩)
          · exact .inl (.inl h)
          · cases i with
            | zero => simp at hi; subst hi; exact .inl (.inr hy)
            | succ i => exact .inr ⟨i, y, by simpa using hi, fun z hz => hp z (by rw [List.take_succ_cons]; exact List.mem_cons_of_mem _ hz), hy⟩
    · simp only [if_true]
      rw [List.getElem?_set]
      have hX : InX f x t ↔ x.n.toNat = t := by unfold InX; rw [hxt]; simp
      constructor
      · intro h
        split at h
        · rename_i e1
          exact .inr (first (hX.2 e1))
        · exact .inl h
      · rintro (h | ⟨i, y, hi, hp, hy⟩)
        · split
          · rw [if_pos (by omega)]
          · exact h
        · cases i with
          | zero =>
            simp at hi; subst hi
            rw [if_pos (hX.1 hy), if_pos (by have := hX.1 hy; omega)]
          | succ i => have := (hp x (by simp)).1; rw [hxt] at this; cases this

/-! The sets that the program computes. -/
/-- A step from a nonterminal to a symbol that stands first in a rule of its own. -/
def EdgF (g : Gram) (m a b : Nat) : Prop := ∃ (q : Rule) (i : Nat) (x : Sym), q ∈ g.rules ∧ q.right[i]? = some x ∧ Nuls g (q.right.take i) ∧ a = m + q.left.toNat ∧ b = nodeS m x
inductive WkF (g : Gram) (m : Nat) : Nat → Nat → Prop where
  | refl (a : Nat) : WkF g m a a
  | head (a b c : Nat) (hs : EdgF g m a b) (h : WkF g m b c) : WkF g m a c
theorem WkF.term {g : Gram} {m a t : Nat} (ha : a < m) (h : WkF g m a t) : a = t := by
  cases h with
  | refl => rfl
  | head _ b _ hs _ => obtain ⟨q, i, x, _, _, _, e, _⟩ := hs; omega
theorem WkF.trans {g : Gram} {m a b c : Nat} (h : WkF g m a b) (k : WkF g m b c) : WkF g m a c := by
  induction h with
  | refl => exact k
  | head a b _ hs _ ih => exact .head a b _ hs (ih k)

/-- On the way: what is true is meant. -/
def MeantS (g : Gram) (m : Nat) (s : List Bool × List (List Bool)) : Prop := (∀ x : Nat, s.1[x]? = some true → Nul g x) ∧ ∀ x t : Nat, Gt s.2 x t → WkF g m (m + x) t
theorem getD_some_true {l : List Bool} {k : Nat} : l.getD k false = true ↔ l[k]? = some true := by
  rw [List.getD_eq_getElem?_getD]
  cases l[k]? <;> simp
theorem inX_meant {g : Gram} {m : Nat} {s : List Bool × List (List Bool)} (h : MeantS g m s) {x : Sym} {t : Nat} (hx : InX s.2 x t) : WkF g m (nodeS m x) t := by
  unfold InX at hx
  unfold nodeS
  split
  · rename_i e; rw [if_pos e] at hx; rw [hx]; exact .refl _
  · rename_i e; rw [if_neg e] at hx; exact h.2 _ _ hx
theorem MeantS.step {g : Gram} {m n : Nat} {s : List Bool × List (List Bool)} (h : MeantS g m s) (hsh : Shape m n s) (hn : ∀ q ∈ g.rules, q.left.toNat < n ∧ ∀ x ∈ q.right, x.term = false → x.n.toNat < n) (q : Rule) (hq : q ∈ g.rules) : MeantS g m (stepR m q s) := by
  obtain ⟨hql, hqr⟩ := hn q hq
  have hrow : ∀ r ∈ s.2, r.length = m := fun r hr => by
    obtain ⟨i, hi, rfl⟩ := List.getElem_of_mem hr
    exact hsh.rows i _ (List.getElem?_eq_getElem hi)
  refine ⟨fun x hx => ?_, fun x t hx => ?_⟩
  · unfold stepR at hx
    dsimp only at hx
    split at hx
    · rename_i he
      rw [List.getElem?_set] at hx
      split at hx
      · rename_i e
        rw [← e]
        have h1 := (ofFrom_snd q.right (List.replicate m false)).1 he
        exact .of hq fun y hy => ⟨(h1 y hy).1, h.1 _ (getD_some_true.1 (h1 y hy).2)⟩
      · exact h.1 x hx
    · exact h.1 x hx
  · unfold stepR Gt at hx
    dsimp only at hx
    rw [List.getD_eq_getElem?_getD, List.getElem?_set] at hx
    split at hx
    · rename_i e
      subst e
      rw [if_pos (by rw [hsh.f]; exact hql)] at hx
      simp only [Option.getD_some] at hx
      rcases orRow_or _ _ _ hx with hx | hx
      · exact h.2 _ _ hx
      · have ht : t < m := by have := (List.getElem?_eq_some_iff.1 hx).1; rw [ofFrom_len, List.length_replicate] at this; exact this
        rcases (ofFrom_fst hrow q.right (List.replicate m false) (by simp) (fun x hx hxt => by rw [hsh.f]; exact hqr x hx hxt) t ht).1 hx with h1 | ⟨i, y, hi, hp, hy⟩
        · rw [List.getElem?_replicate] at h1; split at h1 <;> simp at h1
        · exact .head _ (nodeS m y) _ ⟨q, i, y, hq, hi, fun z hz => ⟨(hp z hz).1, h.1 _ (getD_some_true.1 (hp z hz).2)⟩, rfl, rfl⟩ (inX_meant h hy)
    · rw [← List.getD_eq_getElem?_getD] at hx
      exact h.2 _ _ hx
theorem MeantS.pass {g : Gram} {m n : Nat} (hn : ∀ q ∈ g.rules, q.left.toNat < n ∧ ∀ x ∈ q.right, x.term = false → x.n.toNat < n) : ∀ (rs : List Rule) (s : List Bool × List (List Bool)), (∀ q ∈ rs, q ∈ g.rules) → MeantS g m s → Shape m n s → MeantS g m (passR m rs s) ∧ Shape m n (passR m rs s)
  | [], s, _, h, hs => ⟨h, hs⟩
  | q :: rs, s, hr, h, hs => MeantS.pass hn rs (stepR m q s) (fun x hx => hr x (by simp [hx])) (h.step hs hn q (hr q (by simp))) (hs.step q (hn q (hr q (by simp))).1)
theorem MeantS.iter {g : Gram} {m n : Nat} (hn : ∀ q ∈ g.rules, q.left.toNat < n ∧ ∀ x ∈ q.right, x.term = false → x.n.toNat < n) : ∀ k, MeantS g m (iterR m g.rules k (initS m n)) ∧ Shape m n (iterR m g.rules k (initS m n))
  | 0 => ⟨⟨fun x hx => by simp [iterR, initS, List.getElem?_replicate] at hx, fun x t hx => by
      unfold Gt at hx
      simp only [iterR, initS] at hx
      rw [List.getD_eq_getElem?_getD, List.getElem?_replicate] at hx
      split at hx
      · simp [List.getElem?_replicate] at hx
      · simp at hx⟩, Shape.init m n⟩
  | k + 1 => by
    obtain ⟨h1, h2⟩ := MeantS.iter hn k
    exact MeantS.pass hn g.rules _ (fun q hq => hq) h1 h2
/-- Null and First are what is meant. -/
theorem Stable.meant {g : Gram} {m n : Nat} {e : List Bool} {f : List (List Bool)} (h : Stable g m n e f) (hn : ∀ q ∈ g.rules, q.left.toNat < n ∧ ∀ x ∈ q.right, (x.term = false → x.n.toNat < n) ∧ (x.term = true → x.n.toNat < m)) :
    (∀ x : Nat, e[x]? = some true ↔ Nul g x) ∧ ∀ x t : Nat, t < m → (Gt f x t ↔ WkF g m (m + x) t) := by
  have hn' : ∀ q ∈ g.rules, q.left.toNat < n ∧ ∀ x ∈ q.right, x.term = false → x.n.toNat < n := fun q hq => ⟨(hn q hq).1, fun x hx => ((hn q hq).2 x hx).1⟩
  have hM : MeantS g m (e, f) := by
    obtain ⟨k, hk⟩ := h.iter
    rw [hk]
    exact (MeantS.iter hn' k).1
  have hsh := h.shape
  have hrow : ∀ r ∈ f, r.length = m := fun r hr => by
    obtain ⟨i, hi, rfl⟩ := List.getElem_of_mem hr
    exact hsh.rows i _ (List.getElem?_eq_getElem hi)
  have hE : ∀ x : Nat, Nul g x → e[x]? = some true := fun x hx => by
    induction hx with
    | mk q hq hh _ ih =>
      have h2 := congrArg (fun s => s.1) (h.fix q hq)
      simp only [stepR] at h2
      rw [if_pos ((ofFrom_snd q.right _).2 fun y hy => ⟨hh y hy, getD_some_true.2 (ih y hy)⟩)] at h2
      rw [← h2, List.getElem?_set, if_pos rfl, if_pos (by have := hsh.e; simp at this; rw [this]; exact (hn q hq).1)]
  refine ⟨fun x => ⟨hM.1 x, hE x⟩, fun x t ht => ?_⟩
  have key : ∀ a : Nat, WkF g m a t → (∀ x : Nat, a = m + x → Gt f x t) ∧ (a < m → a = t) := by
    intro a ha
    induction ha with
    | refl a => exact ⟨fun x hx => by omega, fun _ => rfl⟩
    | head a b c hs _ ih =>
      obtain ⟨q, i, y, hq, hi, hp, rfl, rfl⟩ := hs
      obtain ⟨i1, i2⟩ := ih ht
      refine ⟨fun x hx => ?_, fun hlt => by omega⟩
      have ex : x = q.left.toNat := by omega
      subst ex
      have hqf : q.left.toNat < f.length := by have := hsh.f; simp at this; rw [this]; exact (hn q hq).1
      have hym := List.mem_of_getElem? hi
      have hin : InX f y c := by
        unfold InX
        cases hy : y.term
        · simp only [Bool.false_eq_true, if_false]
          exact i1 y.n.toNat (by unfold nodeS; rw [hy]; rfl)
        · simp only [if_true]
          have e1 : nodeS m y = y.n.toNat := by unfold nodeS; rw [hy]; rfl
          rw [e1] at i2
          exact i2 (((hn q hq).2 y hym).2 hy)
      have h3 : (ofFrom e f (List.replicate m false) q.right).1[c]? = some true :=
        (ofFrom_fst hrow q.right (List.replicate m false) (by simp) (fun x hx hxt => by have := hsh.f; simp at this; rw [this]; exact ((hn q hq).2 x hx).1 hxt) c ht).2 (.inr ⟨i, y, hi, fun z hz => ⟨(hp z hz).1, getD_some_true.2 (hE _ (hp z hz).2)⟩, hin⟩)
      have h2 := congrArg (fun s => s.2[q.left.toNat]?) (h.fix q hq)
      simp only [stepR, List.getElem?_set] at h2
      rw [if_pos trivial, if_pos hqf] at h2
      unfold Gt
      rw [List.getD_eq_getElem?_getD, ← h2]
      simp only [Option.getD_some]
      refine orRow_right _ _ _ ?_ h3
      rw [ofFrom_len, List.length_replicate, List.getD_eq_getElem?_getD, List.getElem?_eq_getElem hqf]
      exact hsh.rows _ _ (List.getElem?_eq_getElem hqf)
  exact ⟨hM.2 x t, fun hw => (key _ hw).1 x rfl⟩
end Go.Proofs.YtjdojogjogenkaaDoor

/- Plain laws of cycles: ways by rules that pass on; the shortest cycle; a cycle that is found. No program is named here. -/
namespace Go.Proofs.YtjdojogjogenkaaDoor
open Go.RowKit
set_option linter.unusedVariables false

/-- A rule passes to a nonterminal. -/
def PassN (g : Gram) (q : Rule) (c : Int) : Prop := ∃ i : Nat, q.right[i]? = some ⟨false, c⟩ ∧ Nuls g (q.right.take i ++ q.right.drop (i + 1))
/-- From nonterminal to nonterminal. -/
def PassE (g : Gram) (a b : Nat) : Prop := ∃ q ∈ g.rules, q.left = (a : Int) ∧ PassN g q (b : Int)
/-- A rule and k further rules lead to t. -/
def TabR (g : Gram) : Nat → Rule → Nat → Prop
  | 0, q, t => PassN g q (t : Int)
  | k + 1, q, t => ∃ c : Int, PassN g q c ∧ ∃ q' ∈ g.rules, q'.left = c ∧ TabR g k q' t
/-- Exactly k steps. -/
def Stp (E : Nat → Nat → Prop) : Nat → Nat → Nat → Prop
  | 0, a, b => a = b
  | k + 1, a, b => ∃ c, E a c ∧ Stp E k c b
theorem Stp.app {E : Nat → Nat → Prop} : ∀ (j k a b c : Nat), Stp E j a b → Stp E k b c → Stp E (j + k) a c
  | 0, k, a, b, c, h1, h2 => by
    have e : a = b := h1
    subst e
    rw [Nat.zero_add]; exact h2
  | j + 1, k, a, b, c, ⟨d, h1, h2⟩, h3 => by
    rw [show j + 1 + k = (j + k) + 1 from by omega]
    exact ⟨d, h1, Stp.app j k d b c h2 h3⟩
theorem Stp.plus {E : Nat → Nat → Prop} : ∀ (k a b : Nat), Stp E (k + 1) a b → Plus E a b
  | 0, a, b, ⟨c, h1, h2⟩ => by
    have e : c = b := h2
    subst e
    exact .one _ h1
  | k + 1, a, b, ⟨c, h1, h2⟩ => (Plus.one c h1).trans (Stp.plus k c b h2)
theorem Plus.stp {E : Nat → Nat → Prop} {a b : Nat} (h : Plus E a b) : ∃ k, Stp E (k + 1) a b := by
  induction h with
  | one b h => exact ⟨0, b, h, rfl⟩
  | snoc b c _ hs ih =>
    obtain ⟨k, hk⟩ := ih
    exact ⟨k + 1, Stp.app (k + 1) 1 a b c hk ⟨c, hs, rfl⟩⟩
/-- The places on a way, the last one left out. -/
theorem Stp.nodes {E : Nat → Nat → Prop} : ∀ (k a b : Nat), Stp E k a b → ∃ l : List Nat, l.length = k ∧ (∀ (i x : Nat), l[i]? = some x → Stp E i a x ∧ Stp E (k - i) x b)
  | 0, a, b, h => ⟨[], rfl, fun i x hx => by simp at hx⟩
  | k + 1, a, b, ⟨c, h1, h2⟩ => by
    obtain ⟨l, hl, hx⟩ := Stp.nodes k c b h2
    refine ⟨a :: l, by simp [hl], fun i x hi => ?_⟩
    cases i with
    | zero =>
      simp at hi
      subst hi
      exact ⟨rfl, c, h1, h2⟩
    | succ i =>
      have h3 := hx i x (by simpa using hi)
      refine ⟨⟨c, h1, h3.1⟩, ?_⟩
      rw [show k + 1 - (i + 1) = k - i from by omega]
      exact h3.2
theorem nodup_le : ∀ (n : Nat) (l : List Nat), l.Nodup → (∀ x ∈ l, x < n) → l.length ≤ n
  | 0, l, _, h => by
    cases l with
    | nil => simp
    | cons x l => exact absurd (h x (by simp)) (by omega)
  | n + 1, l, hd, h => by
    have ih := nodup_le n (l.erase n) (hd.erase n) (fun x hx => by
      have h1 := (hd.mem_erase_iff).1 hx
      have := h x h1.2
      omega)
    have : l.length ≤ (l.erase n).length + 1 := by
      rw [List.length_erase]
      split <;> omega
    omega
theorem not_nodup : ∀ (l : List Nat), ¬ l.Nodup → ∃ (i j x : Nat), i < j ∧ l[i]? = some x ∧ l[j]? = some x
  | [], h => absurd List.nodup_nil h
  | a :: l, h => by
    by_cases hm : a ∈ l
    · obtain ⟨j, hj⟩ := List.mem_iff_getElem?.1 hm
      exact ⟨0, j + 1, a, by omega, rfl, hj⟩
    · have h1 : ¬ l.Nodup := fun hl => h (List.nodup_cons.2 ⟨hm, hl⟩)
      obtain ⟨i, j, x, h2, h3, h4⟩ := not_nodup l h1
      exact ⟨i + 1, j + 1, x, by omega, h3, h4⟩
/-- A shortest way back has at most n steps. -/
theorem stp_short {E : Nat → Nat → Prop} {n : Nat} (hE : ∀ a b, E a b → a < n ∧ b < n) : ∀ (k a : Nat), Stp E (k + 1) a a → ∃ j x, j < n ∧ Stp E (j + 1) x x
  | k, a, h => by
    by_cases hk : k < n
    · exact ⟨k, a, hk, h⟩
    · obtain ⟨l, hl, hx⟩ := Stp.nodes (k + 1) a a h
      have hlt : ∀ x ∈ l, x < n := fun x hm => by
        obtain ⟨i, hi⟩ := List.mem_iff_getElem?.1 hm
        have h1 := (hx i x hi).2
        have h2 := (List.getElem?_eq_some_iff.1 hi).1
        obtain ⟨d, hd⟩ : ∃ d, k + 1 - i = d + 1 := ⟨k - i, by omega⟩
        rw [hd] at h1
        obtain ⟨c, hc, _⟩ := h1
        exact (hE x c hc).1
      have hnd : ¬ l.Nodup := fun hd => by
        have := nodup_le n l hd hlt
        omega
      obtain ⟨i, j, x, h1, h2, h3⟩ := not_nodup l hnd
      -- from place i on to x again
      have hj := (List.getElem?_eq_some_iff.1 h3).1
      obtain ⟨m, hm, hmk⟩ : ∃ m, Stp E (m + 1) x x ∧ m < k := by
        have p1 := hx i x h2
        obtain ⟨l2, hl2, hx2⟩ := Stp.nodes (k + 1 - i) x a p1.2
        -- cut the way: the first i steps and the rest from j on form a shorter way back
        have p2 := hx j x h3
        have h4 := Stp.app i (k + 1 - j) a x a p1.1 p2.2
        by_cases h0 : i + (k + 1 - j) = 0
        · omega
        · have h5 := Stp.app (k + 1 - j) i x a x p2.2 p1.1
          refine ⟨k + 1 - j + i - 1, ?_, by omega⟩
          rw [show k + 1 - j + i - 1 + 1 = k + 1 - j + i from by omega]
          exact h5
      exact stp_short hE m x hm
termination_by k => k
theorem tabR_stp {g : Gram} : ∀ (k : Nat) (q : Rule) (t : Nat), q ∈ g.rules → 0 ≤ q.left → (∀ q ∈ g.rules, ∀ c, PassN g q c → 0 ≤ c) → TabR g k q t → Stp (PassE g) (k + 1) q.left.toNat t
  | 0, q, t, hq, h0, _, h => ⟨t, ⟨q, hq, by omega, h⟩, rfl⟩
  | k + 1, q, t, hq, h0, hc, ⟨c, h1, q', hq', h2, h3⟩ => by
    have hc0 := hc q hq c h1
    refine ⟨c.toNat, ⟨q, hq, by omega, by rwa [Int.toNat_of_nonneg hc0]⟩, ?_⟩
    subst h2
    exact tabR_stp k q' t hq' hc0 hc h3
theorem stp_tabR {g : Gram} : ∀ (k a t : Nat), Stp (PassE g) (k + 1) a t → ∃ q ∈ g.rules, q.left = (a : Int) ∧ TabR g k q t
  | 0, a, t, ⟨c, ⟨q, hq, h1, h2⟩, h3⟩ => by
    have e : c = t := h3
    subst e
    exact ⟨q, hq, h1, h2⟩
  | k + 1, a, t, ⟨c, ⟨q, hq, h1, h2⟩, h3⟩ => by
    obtain ⟨q', hq', h4, h5⟩ := stp_tabR k c t h3
    exact ⟨q, hq, h1, (c : Int), h2, q', hq', h4, h5⟩

/-- The rule at a place. -/
def RuleAt (g : Gram) (i : Int) (q : Rule) : Prop := 0 ≤ i ∧ g.rules[i.toNat]? = some q
/-- A next rule on the way back to t, by so many further ones. -/
def NextOk (g : Gram) (last k' : Int) (more t : Nat) : Prop := ∃ q q', RuleAt g last q ∧ RuleAt g k' q' ∧ PassN g q q'.left ∧ TabR g more q' t
/-- The first p + 1 rules of the cycle of k rules back to t, the first one i. -/
structure CycTo (g : Gram) (k i t p : Nat) (l : List Int) : Prop where
  len : l.length = p + 1
  head : l[0]? = some (i : Int)
  next : ∀ (r : Nat) (x y : Int), l[r]? = some x → l[r + 1]? = some y → NextOk g x y (k - 2 - r) t ∧ ∀ z : Int, 0 ≤ z → z < y → ¬ NextOk g x z (k - 2 - r) t
/-- The first shortest cycle. -/
structure CycF (g : Gram) (n k i : Nat) (q : Rule) (l : List Int) : Prop where
  k1 : 1 ≤ k ∧ k ≤ n
  rule : g.rules[i]? = some q
  tab : TabR g (k - 1) q q.left.toNat
  short : ∀ k', 1 ≤ k' → k' < k → ∀ q' ∈ g.rules, ¬ TabR g (k' - 1) q' q'.left.toNat
  first : ∀ i', i' < i → ∀ q', g.rules[i']? = some q' → ¬ TabR g (k - 1) q' q'.left.toNat
  way : CycTo g k i q.left.toNat (k - 1) l
def NoCyc (g : Gram) (n : Nat) : Prop := ∀ k', 1 ≤ k' → k' ≤ n → ∀ q' ∈ g.rules, ¬ TabR g (k' - 1) q' q'.left.toNat
structure PassIn (g : Gram) (n : Nat) : Prop where
  left : ∀ q ∈ g.rules, 0 ≤ q.left ∧ q.left < (n : Int)
  tos : ∀ q ∈ g.rules, ∀ c, PassN g q c → 0 ≤ c ∧ c < (n : Int)
theorem PassIn.e {g : Gram} {n : Nat} (h : PassIn g n) : ∀ a b, PassE g a b → a < n ∧ b < n := by
  rintro a b ⟨q, hq, h1, h2⟩
  have := h.left q hq
  have := h.tos q hq _ h2
  omega
theorem noCyc_iff {g : Gram} {n : Nat} (h : PassIn g n) : NoCyc g n ↔ ∀ a, ¬ Plus (PassE g) a a := by
  constructor
  · intro hn a ha
    obtain ⟨k, hk⟩ := ha.stp
    obtain ⟨j, x, hj, hx⟩ := stp_short h.e k a hk
    obtain ⟨q, hq, h1, h2⟩ := stp_tabR j x x hx
    have h3 := hn (j + 1) (by omega) (by omega) q hq
    apply h3
    rw [show j + 1 - 1 = j from by omega, show q.left.toNat = x from by omega]
    exact h2
  · intro hp k' h1 h2 q hq ht
    have h3 := tabR_stp (k' - 1) q q.left.toNat hq (h.left q hq).1 (fun q hq c hc => (h.tos q hq c hc).1) ht
    exact hp _ (Stp.plus _ _ _ h3)
/-- All rules of the cycle that is found belong to nonterminals on cycles. -/
theorem CycF.on {g : Gram} {n k i : Nat} {q : Rule} {l : List Int} (h : CycF g n k i q l) (hp : PassIn g n) : ∀ (r : Nat) (x : Int), l[r]? = some x → ∃ q', RuleAt g x q' ∧ Plus (PassE g) q'.left.toNat q'.left.toNat := by
  have hq := List.mem_of_getElem? h.rule
  have hc0 : ∀ q ∈ g.rules, ∀ c, PassN g q c → 0 ≤ c := fun q hq c hc => (hp.tos q hq c hc).1
  have key : ∀ (r : Nat) (x : Int), l[r]? = some x → ∃ q', RuleAt g x q' ∧ q' ∈ g.rules ∧ (r = 0 → q' = q) ∧ (r ≠ 0 → Plus (PassE g) q.left.toNat q'.left.toNat) ∧ TabR g (k - 1 - r) q' q.left.toNat := by
    intro r
    induction r with
    | zero =>
      intro x hx
      rw [h.way.head] at hx
      injection hx with hx
      subst hx
      exact ⟨q, ⟨by omega, by simpa using h.rule⟩, hq, fun _ => rfl, fun h => absurd rfl h, h.tab⟩
    | succ r ih =>
      intro x hx
      have hr := (List.getElem?_eq_some_iff.1 hx).1
      obtain ⟨y, hy⟩ := get_some (show r < l.length by omega)
      obtain ⟨q1, h1, h2, h3, h4, h5⟩ := ih y hy
      obtain ⟨⟨qa, qb, a1, a2, a3, a4⟩, _⟩ := h.way.next r y x hy hx
      have e1 : qa = q1 := by
        have := a1.2.symm.trans h1.2
        injection this
      subst e1
      have hb := List.mem_of_getElem? a2.2
      refine ⟨qb, a2, hb, fun e => by omega, fun _ => ?_, ?_⟩
      · have hs : Plus (PassE g) qa.left.toNat qb.left.toNat := .one _ ⟨qa, h2, by have := (hp.left qa h2).1; omega, by rw [Int.toNat_of_nonneg (hp.left qb hb).1]; exact a3⟩
        by_cases e : r = 0
        · rw [h3 e] at hs; exact hs
        · exact (h4 e).trans hs
      · rw [show k - 1 - (r + 1) = k - 2 - r from by omega]; exact a4
  intro r x hx
  obtain ⟨q1, h1, h2, h3, h4, h5⟩ := key r x hx
  refine ⟨q1, h1, ?_⟩
  have hback := Stp.plus _ _ _ (tabR_stp _ q1 q.left.toNat h2 (hp.left q1 h2).1 hc0 h5)
  by_cases e : r = 0
  · have e2 := h3 e
    rw [e2] at hback ⊢
    exact hback
  · exact hback.trans (h4 e)
end Go.Proofs.YtjdojogjogenkaaDoor

/- Rows of bools that are known whole; contract: first.union. -/
namespace Go.Proofs.YtjdojogjogenkaaDoor
open Go.RowKit
set_option linter.unusedVariables false

def UnionI (tos fr : List Bool) (b : Nat) (w : World) (ch i : Value) (wr : World) : Prop :=
  ∃ k : Nat, k ≤ fr.length ∧ i = .int .i64 k ∧ ch = .bool (decide (orRow tos (fr.take k) ≠ tos)) ∧ w.grownBy wr (some b) ∧ Blk' wr b 4 (bcells (orRow tos (fr.take k)))

set_option maxRecDepth 100000 in
set_option maxHeartbeats 1000000 in
theorem union_any (tos fr : List Bool) (b c : Nat) (A : Option Addr) (c2 n n2 : Nat) (S : Nat → Prop) (w : World) (hn : n = tos.length) (hn2 : n2 = fr.length) (hl : fr.length ≤ tos.length) (hm : fr.length ≤ 1000000) (hb : Blk' w b 4 (bcells tos)) (hA : Els w S fr A) (hS : ¬ S b) :
    Calls Tryd.prog 139 #[.slice (some ⟨b, 0, none⟩) n c, .slice A n2 c2] w fun e w' => e = .returned (.bool (decide (orRow tos fr ≠ tos))) ∧ w.grownBy w' (some b) ∧ Blk' w' b 4 (bcells (orRow tos fr)) := by
  subst hn; subst hn2
  have HB := Lib.hid hb
  have HL := Lib.hid hl
  have HM := Lib.hid hm
  have hfm : fr.length ≤ 9223372036854775807 := by omega
  clear hb hl hm
  go_enter Tryd.func139, Tryd.ntmps139
  go_wp2_with fail
  go_loopw [5, 10] (fun ch i wr => UnionI tos fr b w ch i wr) (fun _ i _ => fr.length - (intOf i).toNat)
  case atStart => exact ⟨0, Nat.zero_le _, rfl, by simp [orRow_nil], ⟨rfl, rfl, rfl, Nat.le_refl _, fun _ _ _ => rfl⟩, by rw [List.take_zero, orRow_nil]; exact HB.out⟩
  case round =>
    obtain ⟨wo, hwo⟩ : ∃ wo : World, wo = wr := ⟨_, rfl⟩
    subst hwo
    obtain ⟨k, hk, rfl, rfl, hg, hbk⟩ := hrel
    have HG := Lib.hid hg
    have HK := Lib.hid hbk
    have hf := hbk.frozen k
    have hbl := hbk.lt
    clear hg hbk
    by_cases hlt : k < fr.length
    · have hk0 : (0 : Int) ≤ (k : Int) := by omega
      have hkt : k < tos.length := by have := HL.out; omega
      have hk1 : (k : Int) < (tos.length : Int) := by omega
      obtain ⟨y, hy⟩ := get_some hlt
      obtain ⟨x, hx⟩ := get_some hkt
      obtain ⟨b1, o1, rfl, hSb, hbs, hc0⟩ := (hA.keep (w' := wo) (S' := S) (fun p hp hp' => World.cell?_of_block (HG.out.block p.block hp' (fun e => by injection e with e; exact hS (e ▸ hp)))) (fun _ h => h)).bool hy
      have hct : wo.cell? ⟨b, k, none⟩ = some (.bool x) := (HK.out.cell k).trans (bcells_get (orRow_get _ _ _ _ _ hx (Nat.le_refl _)))
      have E1 := Lib.hid (orRow_take tos fr k x y hx hy)
      have E2 := Lib.hid (orRow_get tos fr k k x hx (Nat.le_refl _))
      have E3 := Lib.hid hx
      clear hx hy
      cases y
      · have E4 := Lib.hid (show orRow tos (fr.take (k + 1)) = orRow tos (fr.take k) by rw [E1.out]; simp [set_same E2.out])
        go_wp2
        go_roundw
        case rel => exact ⟨k + 1, hlt, by go_num, by rw [E4.out], HG.out, by rw [E4.out]; exact HK.out⟩
        case measure => simp [intOf]; omega
      · cases x
        · have E5 : Hid (decide (orRow tos (fr.take (k + 1)) ≠ tos) = true) := Lib.hid (by
            rw [E1.out]
            simp only [Bool.false_or, ne_eq, decide_eq_true_eq]
            intro h
            have h2 := congrArg (fun l => l[k]?) h
            rw [E3.out] at h2
            simp only [List.getElem?_set] at h2
            have := E2.out
            have h3 := (List.getElem?_eq_some_iff.1 this).1
            simp [h3] at h2)
          have HZ := Lib.hid (show Blk' (wo.setCell ⟨b, k, none⟩ (.bool true)) b 4 (bcells (orRow tos (fr.take (k + 1)))) by have h := HK.out.set_ k (.bool true); rw [bcells_set] at h; rw [E1.out]; exact h)
          go_wp2
          go_roundw
          case rel => exact ⟨k + 1, hlt, by go_num, by rw [E5.out], only_setCell HG.out (.inl rfl) _, HZ.out⟩
          case measure => simp [intOf]; omega
        · have E4 := Lib.hid (show orRow tos (fr.take (k + 1)) = orRow tos (fr.take k) by rw [E1.out]; simp [set_same E2.out])
          go_wp2
          go_roundw
          case rel => exact ⟨k + 1, hlt, by go_num, by rw [E4.out], HG.out, by rw [E4.out]; exact HK.out⟩
          case measure => simp [intOf]; omega
    · have E := Lib.hid (show fr.take k = fr from List.take_of_length_le (by omega))
      go_wp2
      go_ret
      exact ⟨ret_bool (by rw [E.out]), HG.out, by have h := HK.out; rw [E.out] at h; exact h⟩

theorem orRow_self : ∀ (a : List Bool), orRow a a = a
  | [] => rfl
  | x :: a => by simp [orRow, orRow_self a]
/-- A row onto itself: nothing turns. -/
theorem union_self (tos : List Bool) (b c n : Nat) (w : World) (hn : n = tos.length) (hm : tos.length ≤ 1000000) (hb : Blk' w b 4 (bcells tos)) :
    Calls Tryd.prog 139 #[.slice (some ⟨b, 0, none⟩) n c, .slice (some ⟨b, 0, none⟩) n c] w fun e w' => e = .returned (.bool false) ∧ w = w' := by
  subst hn
  have HB := Lib.hid hb
  have hfm : tos.length ≤ 9223372036854775807 := by omega
  clear hb
  go_enter Tryd.func139, Tryd.ntmps139
  go_wp2_with fail
  go_loop [5, 10] (fun ch i => ∃ k : Nat, k ≤ tos.length ∧ i = .int .i64 k ∧ ch = .bool false) (fun _ i => tos.length - (intOf i).toNat)
  case atStart => exact ⟨0, Nat.zero_le _, rfl, rfl⟩
  case round =>
    obtain ⟨k, hk, rfl, rfl⟩ := hrel
    by_cases hlt : k < tos.length
    · have hk0 : (0 : Int) ≤ (k : Int) := by omega
      have hk1 : (k : Int) < (tos.length : Int) := by omega
      obtain ⟨y, hy⟩ := get_some hlt
      have hc0 : w.cell? ⟨b, k, none⟩ = some (.bool y) := (HB.out.cell k).trans (bcells_get hy)
      clear hy
      cases y
      all_goals
        go_wp2
        go_round
        case rel => exact ⟨k + 1, hlt, by go_num, rfl⟩
        case measure => simp [intOf]; omega
    · go_wp2
      go_ret
      exact ⟨rfl, rfl⟩
end Go.Proofs.YtjdojogjogenkaaDoor

/- The memory of first.Sets; contract: its method Of. -/
namespace Go.Proofs.YtjdojogjogenkaaDoor
open Go.RowKit
set_option linter.unusedVariables false

/-- A pointer to Sets: p its block, be that of Empty, bf that of First, bs those of First's rows. -/
structure SetsM (w : World) (p be bf : Nat) (bs : List Nat) (m n : Nat) (gt gn gs : Int) (sl : Value) (cf : Nat) (e : List Bool) (f : List (List Bool)) : Prop where
  ptr : Blk' w p 187 #[.int .i64 gt, .int .i64 gn, .int .i64 gs, sl, rowSl be n, .slice (some ⟨bf, 0, none⟩) n cf]
  empty : Blk' w be 4 (bcells e)
  elen : e.length = n
  flen : f.length = n
  blen : bs.length = n
  outer : ∀ (i b : Nat), bs[i]? = some b → w.cell? ⟨bf, i, none⟩ = some (rowSl b m)
  rows : ∀ (i b : Nat) (row : List Bool), bs[i]? = some b → f[i]? = some row → Blk' w b 4 (bcells row) ∧ row.length = m
  nodup : (p :: be :: bf :: bs).Nodup
  bflt : bf < w.heap.size
  cap : n ≤ cf ∧ cf ≤ 9223372036854775807
theorem SetsM.kept {X : Nat → Prop} {w w' : World} {p be bf : Nat} {bs : List Nat} {m n : Nat} {gt gn gs : Int} {sl : Value} {cf : Nat} {e : List Bool} {f : List (List Bool)} (h : SetsM w p be bf bs m n gt gn gs sl cf e f) (k : Kept X w w') (hx : ∀ b ∈ p :: be :: bf :: bs, ¬ X b) : SetsM w' p be bf bs m n gt gn gs sl cf e f :=
  ⟨h.ptr.kept k (hx _ (by simp)), h.empty.kept k (hx _ (by simp)), h.elen, h.flen, h.blen, fun i b hb => (k.cell (p := ⟨bf, i, none⟩) h.bflt (hx _ (by simp))).trans (h.outer i b hb),
    fun i b row hb hr => ⟨(h.rows i b row hb hr).1.kept k (hx _ (by simp [List.mem_of_getElem? hb])), (h.rows i b row hb hr).2⟩, h.nodup, Nat.lt_of_lt_of_le h.bflt k.size, h.cap⟩
theorem SetsM.below {w w' : World} {p be bf : Nat} {bs : List Nat} {m n : Nat} {gt gn gs : Int} {sl : Value} {cf : Nat} {e : List Bool} {f : List (List Bool)} (h : SetsM w p be bf bs m n gt gn gs sl cf e f) (k : Below w.heap.size w w') : SetsM w' p be bf bs m n gt gn gs sl cf e f :=
  h.kept (Kept.of_below (fun _ => False) k) (fun _ _ h => h)
theorem SetsM.lt {w : World} {p be bf : Nat} {bs : List Nat} {m n : Nat} {gt gn gs : Int} {sl : Value} {cf : Nat} {e : List Bool} {f : List (List Bool)} (h : SetsM w p be bf bs m n gt gn gs sl cf e f) : ∀ b ∈ p :: be :: bf :: bs, b < w.heap.size := by
  intro b hb
  rcases List.mem_cons.1 hb with rfl | hb
  · exact h.ptr.lt
  rcases List.mem_cons.1 hb with rfl | hb
  · exact h.empty.lt
  rcases List.mem_cons.1 hb with rfl | hb
  · exact h.bflt
  obtain ⟨i, hi, rfl⟩ := List.getElem_of_mem hb
  have h1 : i < f.length := by have := h.blen; have := h.flen; omega
  exact (h.rows i _ _ (List.getElem?_eq_getElem hi) (List.getElem?_eq_getElem h1)).1.lt
theorem bcells_flat : ∀ (l : List Bool), bcells l = (l.map fun x => [Value.bool x]).flatten.toArray := by
  intro l
  unfold bcells
  congr 1
  induction l with
  | nil => rfl
  | cons x l ih => simp only [List.map_cons, List.flatten_cons, ih]; rfl
/-- A made row is known whole. -/
theorem blk_of_made {w : World} {g n : Nat} {t : TypeId} (h : w.ownsRow g t 1 (.slice (some ⟨g, 0, none⟩) n n) n (madeCells #[.bool false] (n * 1)).toList) : Blk' w g t (bcells (List.replicate n false)) := by
  obtain ⟨h1, h2⟩ := h
  rcases h2 with ⟨h3, _⟩ | ⟨g', cap, cur, h3, h4, h5, h6, h7, h8, h9⟩
  · simp at h3
  · injection h3 with e1 e2 e3
    injection e1 with e1
    injection e1 with e1 _ _
    subst e1; subst e3
    rw [toList_madeCells_one] at h9
    have hc : cur = bcells (List.replicate n false) := by
      apply Array.ext'
      rw [List.take_of_length_le (by simp [h8])] at h9
      rw [h9]
      simp [bcells]
    unfold Blk'
    rw [h5, hc]

def OfL (e : List Bool) (f : List (List Bool)) (l : List Sym) (m : Nat) (w : World) (b0 : Nat) (i : Value) (wr : World) : Prop :=
  ∃ (k : Nat) (out : List Bool), k ≤ l.length ∧ i = .int .i64 k ∧ out.length = m ∧ ofFrom e f (List.replicate m false) l = ofFrom e f out (l.drop k) ∧ Below w.heap.size w wr ∧ Blk' wr b0 4 (bcells out)


set_option maxRecDepth 100000 in
set_option maxHeartbeats 4000000 in
theorem setsOf_any (p be bf : Nat) (bs : List Nat) (m n : Nat) (gt gn gs : Int) (sl : Value) (cf : Nat) (e : List Bool) (f : List (List Bool)) (l : List Sym) (A : Option Addr) (c : Nat) (S : Nat → Prop) (w : World)
    (hM : SetsM w p be bf bs m n gt gn gs sl cf e f) (hgt : gt = (m : Int)) (hm : m ≤ 1000000) (hn : n ≤ 1000000) (hll : l.length ≤ c) (hc : c ≤ 9223372036854775807) (hA : Els w S l A) (hS : ∀ b, S b → b < w.heap.size) (hin : ∀ x ∈ l, 0 ≤ x.n ∧ if x.term then x.n < (m : Int) else x.n < (n : Int)) :
    Calls Tryd.prog 106 #[.pointer (some ⟨p, 0, none⟩), .slice A l.length c] w fun en w' => ∃ b, en = .returned (.tuple #[rowSl b m, .bool (ofFrom e f (List.replicate m false) l).2]) ∧ w.heap.size ≤ b ∧ Blk' w' b 4 (bcells (ofFrom e f (List.replicate m false) l).1) ∧ Below w.heap.size w w' := by
  subst hgt
  have HM := Lib.hid hM
  have HA := Lib.hid hA
  have HS := Lib.hid hS
  have HIn := Lib.hid hin
  have Hmn := Lib.hid (And.intro hm hn)
  have hm2 : m ≤ 140737488355328 := by omega
  have p0 : w.cell? ⟨p, 0, none⟩ = some (.int .i64 (m : Int)) := hM.ptr.cell 0
  have hlm : l.length ≤ 9223372036854775807 := by omega
  obtain ⟨i0, hi, hz0, hz1, hz2⟩ := info_parts infoBool1
  clear hM hA hS hin hm hn
  go_enter Tryd.func106, Tryd.ntmps106
  go_wp2_with (at_make; refine wpList_make_full _ rfl _ _ 53 rfl w.heap.size 4 i0 (.bool false) 1 Tryd.underlying53 hi hz0 hz1 _ _ _ _ m rfl rfl rfl rfl (by rw [hz2]; omega) (by unfold maxLen; omega) (Nat.le_refl _) ?_; intro w1 hr1 hg1; have H1 := Lib.hid (And.intro (blk_of_made hr1) hg1); clear hr1 hg1)
  have HB1 : Hid (Below w.heap.size w w1) := Lib.hid ⟨H1.out.2.os, H1.out.2.tape, H1.out.2.output, H1.out.2.size, fun k hk => H1.out.2.block k hk (by simp)⟩
  clear p0
  go_loopw [17] (fun i wr => OfL e f l m w w.heap.size i wr) (fun i _ => l.length - (intOf i).toNat)
  case atStart => exact ⟨0, _, Nat.zero_le _, rfl, by simp, rfl, HB1.out, H1.out.1⟩
  case round =>
    obtain ⟨wo, hwo⟩ : ∃ wo : World, wo = wr := ⟨_, rfl⟩
    subst hwo
    obtain ⟨k, out, hk, rfl, hol, he, hb, hbk⟩ := hrel
    have HB := Lib.hid hb
    have HE := Lib.hid he
    have HO := Lib.hid hbk
    have HOl := Lib.hid hol
    have HMo := Lib.hid (HM.out.below hb)
    have hz := hbk.lt
    clear he hb hbk hol HB1 H1
    by_cases hlt : k < l.length
    · obtain ⟨x, hx⟩ := get_some hlt
      obtain ⟨b, o, rfl, hSb, hbs, hi64, hc0, hc1⟩ := (HA.out.belowB HB.out HS.out).sym hx
      have Hd := Lib.hid (drop_cons hx)
      have hxi := HIn.out x (List.mem_of_getElem? hx)
      obtain ⟨xt, xn⟩ := x
      dsimp only at *
      have hx0 : 0 ≤ xn := hxi.1
      have hk0 : (0 : Int) ≤ (k : Int) := by omega
      clear hx
      cases xt
      · have hxn : xn < (n : Int) := by simpa using hxi.2
        have hxnn : xn.toNat < n := by omega
        clear hxi
        obtain ⟨bi, hbi⟩ := get_some (show xn.toNat < bs.length by have := HM.out.blen; omega)
        obtain ⟨row, hrow⟩ := get_some (show xn.toNat < f.length by have := HM.out.flen; omega)
        obtain ⟨ev, hev⟩ := get_some (show xn.toNat < e.length by have := HM.out.elen; omega)
        have hR := HMo.out.rows _ _ _ hbi hrow
        have hRl := (HM.out.rows _ _ _ hbi hrow).1.lt
        have hpl := HM.out.ptr.lt
        have hel := HM.out.empty.lt
        have hfl := HM.out.bflt
        have HRow := Lib.hid (And.intro hrow (And.intro hev hR.2))
        have p5 : wo.cell? ⟨p, 5, none⟩ = some (.slice (some ⟨bf, 0, none⟩) n cf) := HMo.out.ptr.cell 5
        have p4 : wo.cell? ⟨p, 4, none⟩ = some (rowSl be n) := HMo.out.ptr.cell 4
        have f0 : wo.cell? ⟨bf, xn.toNat, none⟩ = some (rowSl bi m) := HMo.out.outer _ _ hbi
        have e0 : wo.cell? ⟨be, xn.toNat, none⟩ = some (.bool ev) := (HMo.out.empty.cell _).trans (bcells_get hev)
        unfold rowSl at p4 f0
        have hbo : Below wo.heap.size wo (wo.alloc (.cells #[.bool false, .int .i64 xn] 40)) := (Below.refl _ _).alloc (Nat.le_refl _) _
        have HEr := Lib.hid (els_of_blk (S := fun b => b = bi) (xs := row) (row.map fun x => [Value.bool x]) ((hR.1.below hbo hR.1.lt).drew) (bcells_flat row) (by simp) (by intro i x cs hi hc; simp [hi] at hc; subst hc; rfl) rfl)
        have HOd := Lib.hid ((HO.out.below hbo hz).drew)
        have hzl : w.heap.size < wo.heap.size := hz
        have hpo : p < wo.heap.size := by omega
        have hfo : bf < wo.heap.size := by omega
        have heo : be < wo.heap.size := by omega
        have hbio : bi < wo.heap.size := by omega
        have HNe : Hid (∀ b ∈ p :: be :: bf :: bs, ¬ b = w.heap.size) := Lib.hid (fun b hb h => by have := HM.out.lt b hb; omega)
        have HBi := Lib.hid (And.intro hbi (Blk'.new wo 40 #[.bool false, .int .i64 xn]))
        have E1 := Lib.hid (show ofFrom e f (List.replicate m false) l = if ev then ofFrom e f (orRow out row) (l.drop (k + 1)) else (orRow out row, false) by
          rw [HE.out, Hd.out, ofFrom]
          simp only [List.getD_eq_getElem?_getD, hrow, hev, Option.getD_some, Bool.false_eq_true, if_false])
        clear hrow hev hR hbi hbo Hd
        go_wp2_with fail
        go_region_held3 (fun w' => w'.cell? ⟨p, 5, none⟩ = some (.slice (some ⟨bf, 0, none⟩) n cf) ∧ w'.cell? ⟨bf, xn.toNat, none⟩ = some (.slice (some ⟨bi, 0, none⟩) m m) ∧ w'.cell? ⟨wo.heap.size, 1, none⟩ = some (.int .i64 xn)) (go_keep)
          (first
          | (go_at_call 139; refine (union_any out row w.heap.size m (some ⟨bi, 0, none⟩) m m m (fun b => b = bi) _ (by exact HOl.out.symm) (by exact HRow.out.2.2.symm) (by rw [HOl.out, HRow.out.2.2]; exact Nat.le_refl _) (by have := HRow.out.2.2; have := Hmn.out.1; omega) HOd.out HEr.out (by omega)).mono ?_; rintro en w2 ⟨rfl, hg2, hb2⟩; have hk2 : Kept (fun b => b = w.heap.size) wo w2 := (((Kept.refl _ wo).alloc _).drew).grown hg2 (fun k hk => by injection hk with hk; exact .inl hk.symm); have hM2 := HMo.out.kept hk2 HNe.out; have q5 : w2.cell? ⟨p, 5, none⟩ = some (.slice (some ⟨bf, 0, none⟩) n cf) := hM2.ptr.cell 5; have q4 : w2.cell? ⟨p, 4, none⟩ = some (.slice (some ⟨be, 0, none⟩) n n) := hM2.ptr.cell 4; have g0 : w2.cell? ⟨bf, xn.toNat, none⟩ = some (.slice (some ⟨bi, 0, none⟩) m m) := hM2.outer _ _ HBi.out.1; have x1 : w2.cell? ⟨wo.heap.size, 1, none⟩ = some (.int .i64 xn) := ((HBi.out.2.drew).grown hg2 (by simp; omega)).cell 1; have y0 : w2.cell? ⟨be, xn.toNat, none⟩ = some (.bool ev) := (hM2.empty.cell _).trans (bcells_get HRow.out.2.1); have H2 := Lib.hid (And.intro hb2 (hk2.to_below (B := w.heap.size) (fun b hb => by omega) (by omega))); clear hg2 hb2 hk2 hM2))
        have hl2 := HOl.out
        have hlo : (orRow out row).length = m := by rw [orRow_len]; exact hl2
        have HLo := Lib.hid hlo
        clear hl2 hlo p4 p5 f0 e0
        go_wp2_with fail
        go_quiet (fail)
        cases ev
        · go_wp2
          go_ret2
          exact ⟨w.heap.size, by rw [E1.out]; rfl, Nat.le_refl _, by rw [E1.out]; exact H2.out.1, bdrewN (HB.out.trans H2.out.2)⟩
        · go_wp2
          go_roundw
          case rel => exact ⟨k + 1, _, hlt, by go_num, HLo.out, by rw [E1.out]; rfl, bdrewN (HB.out.trans H2.out.2), H2.out.1.drewN _⟩
          case measure => simp [intOf]; omega
      · have hxn : xn < (m : Int) := by simpa using hxi.2
        have hxnn : xn.toNat < m := by omega
        clear hxi
        have E1 := Lib.hid (show ofFrom e f (List.replicate m false) l = (out.set xn.toNat true, false) by rw [HE.out, Hd.out, ofFrom]; simp)
        obtain ⟨ov, hov⟩ := get_some (show xn.toNat < out.length by have := HOl.out; omega)
        have o0 : wo.cell? ⟨w.heap.size, xn.toNat, none⟩ = some (.bool ov) := (HO.out.cell _).trans (bcells_get hov)
        have of0 := HO.out.frozen xn.toNat
        have HZ := Lib.hid ((HO.out.set_ xn.toNat (.bool true)).alloc (.cells #[.bool true, .int .i64 xn] 40))
        have HBz := Lib.hid ((HB.out.setCell (p := ⟨w.heap.size, xn.toNat, none⟩) (Nat.le_refl _) (.bool true)).alloc (by simp [World.setCell]; omega) (.cells #[.bool true, .int .i64 xn] 40))
        clear hov
        go_wp2
        go_ret2
        exact ⟨w.heap.size, by rw [E1.out]; rfl, Nat.le_refl _, by rw [E1.out]; have h := HZ.out; rw [bcells_set] at h; exact h, HBz.out⟩
    · have E1 := Lib.hid (show ofFrom e f (List.replicate m false) l = (out, true) by rw [HE.out, List.drop_of_length_le (by omega)]; rfl)
      go_wp2
      go_ret2
      exact ⟨w.heap.size, by rw [E1.out]; rfl, Nat.le_refl _, by rw [E1.out]; exact HO.out, HB.out⟩
end Go.Proofs.YtjdojogjogenkaaDoor

/- Contracts: slices.Grow of nil and slices.Concat, at symbols. -/
namespace Go.Proofs.YtjdojogjogenkaaDoor
open Go.RowKit
set_option linter.unusedVariables false


def RoomSym (w0 : World) (n : Nat) (e : Ending) (w' : World) : Prop :=
  ∃ v, e = .returned v ∧ (∀ S, Own w' S w0.heap.size 40 v ([] : List Sym)) ∧ Below w0.heap.size w0 w'

set_option maxRecDepth 100000 in
theorem growSym_any (n : Nat) (w : World) (hn : n * 16 ≤ 140737488355328) :
    Calls Tryd.prog 140 #[.slice none 0 0, .int .i64 n] w (RoomSym w n) := by
  by_cases h0 : n = 0
  · subst h0
    go_enter Tryd.func140, Tryd.ntmps140
    go_wp2
    go_ret
    exact ⟨_, rfl, fun S => Own.nil _ _ _ _, Below.refl _ _⟩
  · have hp : (0 : Int) < (n : Int) := by omega
    obtain ⟨w', g, cap, hr, hg, hc1, hc2, hown, hb, hsz⟩ := run_room (ty := 58) (w := w) (k := .i64) elemSym Tryd.underlying3 n (by omega) (by omega) (by omega)
    subst hg
    have Hr := Lib.hid hr
    clear hr
    have hc3 : (0 : Int) ≤ (cap : Int) := by omega
    go_enter Tryd.func140, Tryd.ntmps140
    go_wp2_with (at_builtin; refine Lib.wpList_append_run _ rfl _ _ _ _ rfl _ _ rfl rfl _ _ Hr.out ?_)
    go_ret
    exact ⟨_, rfl, hown, hb⟩

set_option maxRecDepth 100000 in
set_option maxHeartbeats 400000 in
theorem concatSym_any (A : Option Addr) (c : Nat) (xss : List (List Sym)) (S : Nat → Prop) (w : World) (hl : xss.length ≤ 9223372036854775807) (hA : Els w S xss A) (hS : ∀ b, S b → b < w.heap.size) (htot0 : xss.flatten.length * 16 ≤ 140737488355328) :
    Calls Tryd.prog 107 #[.slice A xss.length c] w (RetOwn w S 40 xss.flatten) := by
  go_enter Tryd.func107, Tryd.ntmps107
  have HTot := Lib.hid htot0
  have htot := htot0
  clear htot0
  go_wp2
  go_loop [3, 11] (fun n i => ∃ k : Nat, k ≤ xss.length ∧ i = .int .i64 k ∧ n = .int .i64 ((xss.take k).flatten.length : Nat)) (fun _ i => xss.length - (intOf i).toNat)
  case atStart => exact ⟨0, Nat.zero_le _, rfl, rfl⟩
  case round =>
    obtain ⟨k, hk, rfl, rfl⟩ := hrel
    by_cases hlt : k < xss.length
    · obtain ⟨x, hx⟩ := get_some hlt
      obtain ⟨b, o, A', c', rfl, _, hbs, hxc, hcm, _, hcell⟩ := hA.list hx
      have hts := flat_take_snoc hx
      have hle := flat_take_le xss (k + 1)
      have hlen : (xss.take (k + 1)).flatten.length = (xss.take k).flatten.length + x.length := by rw [hts, List.length_append]
      rw [hlen] at hle
      have HL := Lib.hid hlen
      clear hts hlen hx
      generalize (xss.take k).flatten.length = m at *
      have hnn : ¬ ((m : Int) + (x.length : Int) < 0) := by omega
      go_wp2
      go_round
      case rel => exact ⟨k + 1, by omega, by go_num, by rw [HL.out]; go_num⟩
      case measure => simp [intOf]; omega
    · have hkx : k = xss.length := by omega
      subst hkx
      rw [List.take_length]
      have Hm := Lib.hid htot
      generalize xss.flatten.length = m at Hm ⊢
      clear htot
      go_wp2_with fail
      refine (growSym_any _ w Hm.out).mono ?_
      rintro e w1 ⟨v1, rfl, hown, hb1⟩
      have HO := Lib.hid (hown S)
      have HB := Lib.hid hb1
      clear hown hb1
      go_wp2
      go_loopw [6, 27] (fun v i wr => ∃ k : Nat, k ≤ xss.length ∧ i = .int .i64 k ∧ Own wr S w.heap.size 40 v (xss.take k).flatten ∧ Below w.heap.size w wr) (fun _ i _ => xss.length - (intOf i).toNat)
      case atStart => exact ⟨0, Nat.zero_le _, rfl, HO.out, HB.out⟩
      case round =>
        obtain ⟨k, hk, rfl, hown, hb⟩ := hrel
        have HO := Lib.hid hown
        have HB := Lib.hid hb
        clear hown hb
        by_cases hlt : k < xss.length
        · obtain ⟨x, hx⟩ := get_some hlt
          obtain ⟨b, o, A', c', rfl, _, hbs, hxc, hcm, hA', hcell⟩ := (hA.below HB.out).list hx
          have HA' := Lib.hid (hA'.own HO.out hS HB.out.size)
          have hts := flat_take_snoc hx
          have hle := flat_take_le xss (k + 1)
          rw [hts, List.length_append] at hle
          have htot := HTot.out
          have HT := Lib.hid hts
          clear hts hx hA'
          go_wp2_with (at_builtin; refine wpList_ownMany _ rfl _ _ elemSym rfl rfl HO.out x rfl rfl HA'.out (by omega) (by omega) HB.out.size ?_; intro v' w' hown' hg' _)
          have HO' := Lib.hid hown'
          have HG := Lib.hid hg'
          clear hown' hg'
          go_wp2
          go_roundw
          case rel => exact ⟨k + 1, by omega, by go_num, by rw [HT.out]; exact HO'.out, bgrown HB.out HG.out HO.out (Nat.le_refl _) HB.out.size⟩
          case measure => simp [intOf]; omega
        · have hkx : k = xss.length := by omega
          subst hkx
          go_wp2
          go_ret
          exact ⟨_, rfl, by have h := HO.out; rwa [List.take_length] at h, HB.out⟩

end Go.Proofs.YtjdojogjogenkaaDoor

/- Contracts: slices.Index and slices.Contains at int. -/
namespace Go.Proofs.YtjdojogjogenkaaDoor
open Go.RowKit
set_option linter.unusedVariables false

set_option maxRecDepth 100000 in
theorem indexInt_any (A : Option Addr) (c : Nat) (xs : List Int) (z : Int) (S : Nat → Prop) (w : World) (hm : xs.length ≤ 9223372036854775807) (hA : Els w S xs A) :
    Calls Tryd.prog 45 #[.slice A xs.length c, .int .i64 z] w fun e w' => e = .returned (.int .i64 (idxI (fun x => z == x) xs)) ∧ w = w' := by
  go_enter Tryd.func45, Tryd.ntmps45
  go_wp2
  go_loop [8] (fun i => ∃ k : Nat, k ≤ xs.length ∧ i = .int .i64 k ∧ (∀ y ∈ xs.take k, (z == y) = false)) (fun i => xs.length - (intOf i).toNat)
  case atStart => exact ⟨0, Nat.zero_le _, rfl, by simp⟩
  case round =>
    obtain ⟨k, hk, rfl, hno⟩ := hrel
    have HN := Lib.hid hno
    clear hno
    by_cases hlt : k < xs.length
    · obtain ⟨x, hx⟩ := get_some hlt
      obtain ⟨b, o, rfl, _, hbs, hi, hc0⟩ := hA.int hx
      have HX := Lib.hid hx
      clear hx
      have hk0 : (0 : Int) ≤ (k : Int) := by omega
      have hk1 : (k : Int) < (xs.length : Int) := by omega
      cases hp : (z == x)
      · go_wp2
        go_round
        case rel => exact ⟨k + 1, by omega, by go_num, by
          rw [take_snoc HX.out]
          intro y hy
          rcases List.mem_append.1 hy with h | h
          · exact HN.out y h
          · simp at h; subst h; exact hp⟩
        case measure => simp [intOf]; omega
      · have E0 := Lib.hid (idxI_hit (p := fun x => z == x) HX.out hp HN.out)
        go_wp2
        go_ret
        exact ⟨ret_int E0.out.symm, rfl⟩
    · have E0 := Lib.hid (show idxI (fun x => z == x) xs = -1 from idxI_none (by have h := HN.out; rwa [List.take_of_length_le (by omega)] at h))
      go_wp2
      go_ret
      exact ⟨ret_int E0.out.symm, rfl⟩

theorem any_eq_mem (xs : List Int) (z : Int) : xs.any (fun x => z == x) = decide (z ∈ xs) := by
  rw [Bool.eq_iff_iff]; simp [List.any_eq_true]
theorem containsInt_any (A : Option Addr) (n c : Nat) (xs : List Int) (z : Int) (S : Nat → Prop) (w : World) (hn : n = xs.length) (hm : xs.length ≤ 9223372036854775807) (hA : Els w S xs A) :
    Calls Tryd.prog 89 #[.slice A n c, .int .i64 z] w fun e w' => e = .returned (.bool (decide (z ∈ xs))) ∧ w = w' := by
  subst hn
  have HA := Lib.hid hA
  clear hA
  go_enter Tryd.func89, Tryd.ntmps89
  go_wp2_with fail
  refine (indexInt_any A c xs z S _ hm HA.out).mono ?_
  rintro e w1 ⟨rfl, rfl⟩
  go_wp2
  go_ret
  exact ⟨ret_bool ((idxI_nonneg _ _).trans (any_eq_mem xs z)), rfl⟩
end Go.Proofs.YtjdojogjogenkaaDoor

/- Contracts: slices.IndexFunc and slices.ContainsFunc at trees, at whatever predicate: a closure with three captured variables. -/
namespace Go.Proofs.YtjdojogjogenkaaDoor
open Go.RowKit
set_option linter.unusedVariables false

set_option maxRecDepth 100000 in
theorem idxTree3_any (A : Option Addr) (c : Nat) (xs : List Tree) (S : Nat → Prop) (w : World) (F : Nat) (ca cb cc : Value) (p : Tree → Bool) (hm : xs.length ≤ 9223372036854775807) (hA : Els w S xs A) (hgo : IsGo F)
    (hcall : ∀ (x : Tree) (W : World), x ∈ xs → Below w.heap.size w W → ∀ (A' : Option Addr) (c' : Nat), I64 x.rule → I64 x.term → x.kids.length ≤ c' → c' ≤ 9223372036854775807 → Els W S x.kids A' → Calls Tryd.prog F #[.agg #[.int .i64 x.rule, .int .i64 x.term, .slice A' x.kids.length c'], ca, cb, cc] W fun e W' => e = .returned (.bool (p x)) ∧ Below W.heap.size W W') :
    Calls Tryd.prog 64 #[.slice A xs.length c, .func (.func F) #[] #[ca, cb, cc]] w fun e w' => e = .returned (.int .i64 (idxI p xs)) ∧ Below w.heap.size w w' := by
  have HC := Lib.hid hcall
  have hgo' : ∀ (args : Array Value) (W : World), (callFunc F args).run Tryd.prog W = .ok (.enter F args) W := hgo
  clear hcall hgo
  go_enter Tryd.func64, Tryd.ntmps64
  go_wp2
  go_loopw [8] (fun i wr => ∃ k : Nat, k ≤ xs.length ∧ i = .int .i64 k ∧ (∀ y ∈ xs.take k, p y = false) ∧ Below w.heap.size w wr) (fun i _ => xs.length - (intOf i).toNat)
  case atStart => exact ⟨0, Nat.zero_le _, rfl, by simp, Below.refl _ _⟩
  case round =>
    obtain ⟨k, hk, rfl, hno, hb⟩ := hrel
    have HN := Lib.hid hno
    have HB := Lib.hid hb
    clear hno hb
    by_cases hlt : k < xs.length
    · obtain ⟨x, hx⟩ := get_some hlt
      obtain ⟨b, o, A1, c1, rfl, _, hbs, hi, hi2, hl1, hl2, hE1, hc0, hc1, hc2⟩ := (hA.below HB.out).tree hx
      have HE1 := Lib.hid hE1
      have HI := Lib.hid (And.intro hi hi2)
      clear hE1 hi hi2
      have HX := Lib.hid hx
      have HM := Lib.hid (List.mem_of_getElem? hx)
      clear hx
      have hk0 : (0 : Int) ≤ (k : Int) := by omega
      have hk1 : (k : Int) < (xs.length : Int) := by omega
      go_wp2_with fail
      refine (HC.out x _ HM.out HB.out A1 c1 HI.out.1 HI.out.2 hl1 hl2 HE1.out).mono ?_
      rintro e w1 ⟨rfl, hb1⟩
      have HB1 := Lib.hid hb1
      clear hb1
      cases hp : p x
      · go_wp2
        go_roundw
        case rel => exact ⟨k + 1, by omega, by go_num, by
          rw [take_snoc HX.out]
          intro y hy
          rcases List.mem_append.1 hy with h | h
          · exact HN.out y h
          · simp at h; subst h; exact hp, bthen HB.out HB1.out HB.out.size⟩
        case measure => simp [intOf]; omega
      · have E0 := Lib.hid (idxI_hit HX.out hp HN.out)
        clear hp
        go_wp2
        go_ret
        exact ⟨ret_int E0.out.symm, bthen HB.out HB1.out HB.out.size⟩
    · have E0 := Lib.hid (show idxI p xs = -1 from idxI_none (by have h := HN.out; rwa [List.take_of_length_le (by omega)] at h))
      go_wp2
      go_ret
      exact ⟨ret_int E0.out.symm, HB.out⟩

theorem contTree3_any (A : Option Addr) (c : Nat) (xs : List Tree) (S : Nat → Prop) (w : World) (F : Nat) (ca cb cc : Value) (p : Tree → Bool) (hm : xs.length ≤ 9223372036854775807) (hA : Els w S xs A) (hgo : IsGo F)
    (hcall : ∀ (x : Tree) (W : World), x ∈ xs → Below w.heap.size w W → ∀ (A' : Option Addr) (c' : Nat), I64 x.rule → I64 x.term → x.kids.length ≤ c' → c' ≤ 9223372036854775807 → Els W S x.kids A' → Calls Tryd.prog F #[.agg #[.int .i64 x.rule, .int .i64 x.term, .slice A' x.kids.length c'], ca, cb, cc] W fun e W' => e = .returned (.bool (p x)) ∧ Below W.heap.size W W') :
    Calls Tryd.prog 27 #[.slice A xs.length c, .func (.func F) #[] #[ca, cb, cc]] w fun e w' => e = .returned (.bool (xs.any p)) ∧ Below w.heap.size w w' := by
  have HC := Lib.hid hcall
  have HG := Lib.hid hgo
  have HA := Lib.hid hA
  clear hcall hgo hA
  go_enter Tryd.func27, Tryd.ntmps27
  go_wp2_with fail
  refine (idxTree3_any A c xs S w F ca cb cc p hm HA.out HG.out HC.out).mono ?_
  rintro e w1 ⟨rfl, hb1⟩
  go_wp2
  go_ret
  exact ⟨ret_bool (idxI_nonneg p xs), hb1⟩

theorem contTree_n (A : Option Addr) (n c : Nat) (xs : List Tree) (hn : n = xs.length) (S : Nat → Prop) (w : World) (F : Nat) (ca cb cc : Value) (p : Tree → Bool) (hm : xs.length ≤ 9223372036854775807) (hA : Els w S xs A) (hgo : IsGo F)
    (hcall : ∀ (x : Tree) (W : World), x ∈ xs → Below w.heap.size w W → ∀ (A' : Option Addr) (c' : Nat), I64 x.rule → I64 x.term → x.kids.length ≤ c' → c' ≤ 9223372036854775807 → Els W S x.kids A' → Calls Tryd.prog F #[.agg #[.int .i64 x.rule, .int .i64 x.term, .slice A' x.kids.length c'], ca, cb, cc] W fun e W' => e = .returned (.bool (p x)) ∧ Below W.heap.size W W') :
    Calls Tryd.prog 27 #[.slice A n c, .func (.func F) #[] #[ca, cb, cc]] w fun e w' => e = .returned (.bool (xs.any p)) ∧ Below w.heap.size w w' := by
  subst hn; exact contTree3_any A c xs S w F ca cb cc p hm hA hgo hcall
end Go.Proofs.YtjdojogjogenkaaDoor

/- Contracts: slices.Index, slices.Contains at bools. -/
namespace Go.Proofs.YtjdojogjogenkaaDoor
open Go.RowKit
set_option linter.unusedVariables false

set_option maxRecDepth 100000 in
theorem indexBool_any (A : Option Addr) (c : Nat) (xs : List Bool) (z : Bool) (S : Nat → Prop) (w : World) (hm : xs.length ≤ 9223372036854775807) (hA : Els w S xs A) :
    Calls Tryd.prog 65 #[.slice A xs.length c, .bool z] w fun e w' => e = .returned (.int .i64 (idxI (fun x => z == x) xs)) ∧ w = w' := by
  go_enter Tryd.func65, Tryd.ntmps65
  go_wp2
  go_loop [8] (fun i => ∃ k : Nat, k ≤ xs.length ∧ i = .int .i64 k ∧ (∀ y ∈ xs.take k, (z == y) = false)) (fun i => xs.length - (intOf i).toNat)
  case atStart => exact ⟨0, Nat.zero_le _, rfl, by simp⟩
  case round =>
    obtain ⟨k, hk, rfl, hno⟩ := hrel
    have HN := Lib.hid hno
    clear hno
    by_cases hlt : k < xs.length
    · obtain ⟨x, hx⟩ := get_some hlt
      obtain ⟨b, o, rfl, _, hbs, hc0⟩ := hA.bool hx
      have HX := Lib.hid hx
      clear hx
      have hk0 : (0 : Int) ≤ (k : Int) := by omega
      have hk1 : (k : Int) < (xs.length : Int) := by omega
      cases hp : (z == x)
      · have HP := Lib.hid hp
        cases z <;> cases x <;> first
          | exact absurd hp (by decide)
          | (clear hp
             go_wp2
             go_round
             case rel => exact ⟨k + 1, by omega, by go_num, by
               rw [take_snoc HX.out]
               intro y hy
               rcases List.mem_append.1 hy with h | h
               · exact HN.out y h
               · simp at h; subst h; exact HP.out⟩
             case measure => simp [intOf]; omega)
      · have E0 := Lib.hid (idxI_hit (p := fun x => z == x) HX.out hp HN.out)
        cases z <;> cases x <;> first
          | exact absurd hp (by decide)
          | (clear hp
             go_wp2
             go_ret
             exact ⟨ret_int (E0.out.symm.trans (congrArg (fun p => idxI p xs) (funext fun x => by cases x <;> rfl))), rfl⟩)
    · have E0 := Lib.hid (show idxI (fun x => z == x) xs = -1 from idxI_none (by have h := HN.out; rwa [List.take_of_length_le (by omega)] at h))
      go_wp2
      go_ret
      cases z <;> exact ⟨ret_int (E0.out.symm.trans (congrArg (fun p => idxI p xs) (funext fun x => by cases x <;> rfl))), rfl⟩

theorem anyb_eq_mem (xs : List Bool) (z : Bool) : xs.any (fun x => z == x) = decide (z ∈ xs) := by
  rw [Bool.eq_iff_iff]; simp [List.any_eq_true]
theorem containsBool_any (A : Option Addr) (n c : Nat) (xs : List Bool) (z : Bool) (S : Nat → Prop) (w : World) (hn : n = xs.length) (hm : xs.length ≤ 9223372036854775807) (hA : Els w S xs A) :
    Calls Tryd.prog 28 #[.slice A n c, .bool z] w fun e w' => e = .returned (.bool (decide (z ∈ xs))) ∧ w = w' := by
  subst hn
  have HA := Lib.hid hA
  clear hA
  go_enter Tryd.func28, Tryd.ntmps28
  go_wp2_with fail
  refine (indexBool_any A c xs z S _ hm HA.out).mono ?_
  rintro e w1 ⟨rfl, rfl⟩
  go_wp2
  go_ret
  exact ⟨ret_bool ((idxI_nonneg _ _).trans (anyb_eq_mem xs z)), rfl⟩
end Go.Proofs.YtjdojogjogenkaaDoor

/- Contracts: parlmake's Below and the stream's next. -/
namespace Go.Proofs.YtjdojogjogenkaaDoor
open Go.RowKit
set_option linter.unusedVariables false

/-- A number from 0 to n-1 is returned, and nothing turns. -/
def RetBelow (n : Int) (w : World) (e : Ending) (w' : World) : Prop := ∃ r : Int, 0 ≤ r ∧ r < n ∧ e = .returned (.int .i64 r) ∧ w = w'

theorem below_any (x n : Int) (w : World) (hx : I64 x) (hn : 1 ≤ n) (hn' : n ≤ 1000000000) : Calls Tryd.prog 51 #[.int .i64 x, .int .i64 n] w (RetBelow n w) := by
  have h1 : x.tmod n < n := Int.tmod_lt_of_pos x (by omega)
  have h2 : -n < x.tmod n := by
    have := Int.lt_tmod_of_pos x (b := n) (by omega)
    omega
  have HH := Lib.hid (And.intro h1 h2)
  have hn0 : (n == 0) = false := by simp; omega
  have hw : IntKind.i64.wrap (x.tmod n) = x.tmod n := IntWalk.i64_in _ (by omega)
  have Hn' := Lib.hid hn'
  clear hn' h1 h2
  by_cases h0 : x.tmod n < 0
  · have ha : IntKind.i64.wrap (x.tmod n + n) = x.tmod n + n := IntWalk.i64_in _ (by have := HH.out; have := Hn'.out; omega)
    go_enter Tryd.func51, Tryd.ntmps51
    go_wp2
    go_ret
    exact ⟨x.tmod n + n, by have := HH.out; omega, by omega, rfl, rfl⟩
  · go_enter Tryd.func51, Tryd.ntmps51
    go_wp2
    go_ret
    exact ⟨x.tmod n, by omega, by have := HH.out; omega, rfl, rfl⟩

theorem Els.cut {α : Type} [Dat α] {w : World} {S : Nat → Prop} {xs : List α} {A : Option Addr} {c k : Nat} (h : Els w S xs A) (hl : xs.length ≤ c) :
    Els w S (xs.drop k) (if c = k then A else A.map (·.add (k * Dat.size α))) := by
  intro hne
  have hlt : k < xs.length := by
    rcases Nat.lt_or_ge k xs.length with h1 | h1
    · exact h1
    · exact absurd (List.drop_of_length_le h1) hne
  obtain ⟨b, o, rfl, hb, hx⟩ := h (by rintro rfl; simp at hlt)
  rw [if_neg (by omega)]
  refine ⟨b, o + k * Dat.size α, ?_, hb, fun i x hi => ?_⟩
  · simp only [Option.map_some]
    congr 1
    unfold Addr.add; split <;> simp_all
  · rw [List.getElem?_drop] at hi
    obtain ⟨cs, h1, h2⟩ := hx _ x hi
    exact ⟨cs, h1, by rw [show o + k * Dat.size α + i * Dat.size α = o + (k + i) * Dat.size α from by rw [Nat.add_mul]; omega]; exact h2⟩

/-- The stream's block g holds a list of numbers that lies in S. -/
def StreamAt (S : Nat → Prop) (w : World) (g : Nat) : Prop :=
  ∃ (xs : List Int) (A : Option Addr) (c : Nat), w.cell? ⟨g, 0, none⟩ = some (.slice A xs.length c) ∧ w.frozen? ⟨g, 0, none⟩ = false ∧ xs.length ≤ c ∧ c ≤ 9223372036854775807 ∧ Els w S xs A
theorem StreamAt.keep {S : Nat → Prop} {w w' : World} {g : Nat} (h : StreamAt S w g) (hg : ∀ i, w'.cell? ⟨g, i, none⟩ = w.cell? ⟨g, i, none⟩) (hf : ∀ i, w'.frozen? ⟨g, i, none⟩ = w.frozen? ⟨g, i, none⟩)
    (hk : ∀ p : Addr, S p.block → p.block < w.heap.size → w'.cell? p = w.cell? p) : StreamAt S w' g := by
  obtain ⟨xs, A, c, h1, h2, h3, h4, h5⟩ := h
  exact ⟨xs, A, c, (hg 0).trans h1, (hf 0).trans h2, h3, h4, h5.keep hk (fun _ h => h)⟩
theorem StreamAt.below {S : Nat → Prop} {w w' : World} {g B : Nat} (h : StreamAt S w g) (hb : Below B w w') (hB : w.heap.size ≤ B) : StreamAt S w' g := by
  have hl : g < w.heap.size := by obtain ⟨xs, A, c, h1, _⟩ := h; exact World.block_lt_of_cell? w _ h1
  exact h.keep (fun i => hb.cell (p := ⟨g, i, none⟩) (by show g < B; omega)) (fun i => hb.frozen (p := ⟨g, i, none⟩) (by show g < B; omega)) (fun p _ hp => hb.cell (by omega))
theorem StreamAt.alloc {S : Nat → Prop} {w : World} {g : Nat} (h : StreamAt S w g) (o : Obj) (_ : True) : StreamAt S (w.alloc o) g := h.below ((Below.refl _ _).alloc (Nat.le_refl _) o) (Nat.le_refl _)
theorem StreamAt.grown {S : Nat → Prop} {w w' : World} {g : Nat} {row : Option Nat} (h : StreamAt S w g) (hb : w.grownBy w' row) (hg : some g ≠ row) (hS : ∀ k, row = some k → ¬ S k) : StreamAt S w' g := by
  have hl : g < w.heap.size := by obtain ⟨xs, A, c, h1, _⟩ := h; exact World.block_lt_of_cell? w _ h1
  have hk := hb.block g hl hg
  exact h.keep (fun i => World.cell?_of_block (a := ⟨g, i, none⟩) hk) (fun i => World.frozen?_of_block (a := ⟨g, i, none⟩) hk) (fun p hp hlt => World.cell?_of_block (hb.block p.block hlt (fun e => hS _ e.symm hp)))
theorem StreamAt.setCell {S : Nat → Prop} {w : World} {g : Nat} (h : StreamAt S w g) {p : Addr} (hp : g ≠ p.block) (hS : ¬ S p.block) (u : Value) : StreamAt S (w.setCell p u) g :=
  h.grown (row := some p.block) ⟨rfl, rfl, rfl, by simp [World.setCell], fun k _ hk => Below.heap_setCell _ _ _ _ (fun e => hk (by rw [e]))⟩ (fun e => hp (by injection e)) (fun k hk => by injection hk with hk; rw [← hk]; exact hS)
/-- A number from 0 to n-1 is returned; only the stream's block has turned. -/
def RetNext (S : Nat → Prop) (g : Nat) (n : Int) (w : World) (e : Ending) (w' : World) : Prop :=
  ∃ r : Int, 0 ≤ r ∧ r < n ∧ e = .returned (.int .i64 r) ∧ StreamAt S w' g ∧ w.grownBy w' (some g)

set_option maxRecDepth 100000 in
theorem next_any (S : Nat → Prop) (g : Nat) (n : Int) (w : World) (hn : 1 ≤ n) (hn' : n ≤ 1000000000) (hS : ¬ S g) (h : StreamAt S w g) :
    Calls Tryd.prog 49 #[.pointer (some ⟨g, 0, none⟩), .int .i64 n] w (RetNext S g n w) := by
  obtain ⟨xs, A, c, hc, hf, h1, h2, hA⟩ := h
  have HA := Lib.hid hA
  have Hn' := Lib.hid hn'
  clear hn' hA
  cases xs with
  | nil =>
    simp only [List.length_nil] at hc
    go_enter Tryd.func49, Tryd.ntmps49
    go_wp2_with fail
    go_ret
    exact ⟨0, by omega, by omega, rfl, ⟨[], A, c, hc, hf, h1, h2, HA.out⟩, World.grownBy.refl w _⟩
  | cons x xs =>
    simp only [List.length_cons] at hc h1
    obtain ⟨b, o, rfl, hb, hbs, hi, hcell⟩ := HA.out.int (k := 0) rfl
    simp only [Nat.add_zero] at hcell
    have hne : ((xs.length : Int) + 1 == 0) = false := by simp; omega
    have hne' : (0 : Int) < (xs.length : Int) + 1 := by omega
    have hc1 : (1 : Int) ≤ (c : Int) := by omega
    have hc2 : (xs.length : Int) + 1 ≤ (c : Int) := by omega
    have hgl : g < w.heap.size := World.block_lt_of_cell? w _ hc
    have hgr : ∀ u, w.grownBy (w.setCell ⟨g, 0, none⟩ u) (some g) := fun u => ⟨rfl, rfl, rfl, by simp [World.setCell], fun k hk hne => Below.heap_setCell _ _ _ _ (fun e => hne (by rw [e]))⟩
    have hst : ∀ (A' : Option Addr) (c' : Nat), xs.length ≤ c' → c' ≤ 9223372036854775807 → Els w S xs A' → StreamAt S (w.setCell ⟨g, 0, none⟩ (.slice A' xs.length c')) g := fun A' c' q1 q2 q3 =>
      ⟨xs, A', c', World.cell?_setCell_same _ _ _ hc, by rw [World.frozen?_setCell]; exact hf, q1, q2, q3.keep (fun p hp _ => World.cell?_setCell_other _ _ _ _ (fun e => hS (by rw [← e] at hp; exact hp))) (fun _ h => h)⟩
    have Hst := Lib.hid hst
    have Hgr := Lib.hid hgr
    clear hst hgr
    have hcut := HA.out.cut (k := 1) (c := c) (by simpa using h1)
    have Hcut := Lib.hid hcut
    clear hcut
    by_cases hc0 : c = 1
    · subst hc0
      obtain rfl : xs = [] := List.eq_nil_of_length_eq_zero (by omega)
      simp only [List.length_nil, Nat.zero_add] at hc
      clear hne hne' hc1 hc2
      go_enter Tryd.func49, Tryd.ntmps49
      go_wp2_with fail
      refine (below_any x n _ hi hn Hn'.out).mono ?_
      rintro e w1 ⟨r, hr0, hr1, rfl, rfl⟩
      go_wp2
      go_ret
      exact ⟨r, hr0, hr1, rfl, Hst.out (some ⟨b, o, none⟩) 0 (by simp) (by omega) (fun h => absurd rfl h), Hgr.out _⟩
    · have Hc0 := Lib.hid hc0
      go_enter Tryd.func49, Tryd.ntmps49
      go_wp2_with fail
      refine (below_any x n _ hi hn Hn'.out).mono ?_
      rintro e w1 ⟨r, hr0, hr1, rfl, rfl⟩
      go_wp2
      go_ret
      have he : Els w S xs (some ⟨b, o + 1, none⟩) := by have h := Hcut.out; rwa [if_neg Hc0.out] at h
      exact ⟨r, hr0, hr1, rfl, Hst.out (some ⟨b, o + 1, none⟩) (c - 1) (by omega) (by omega) he, Hgr.out _⟩
end Go.Proofs.YtjdojogjogenkaaDoor

/- Contract: parlmake.has: is the rule among the rules? -/
namespace Go.Proofs.YtjdojogjogenkaaDoor
open Go.RowKit
set_option linter.unusedVariables false

def HasR (rs : List Rule) (r : Rule) (A' : Option Addr) (c' : Nat) (w : World) (i : Value) (wr : World) : Prop :=
  ∃ k : Nat, k ≤ rs.length ∧ i = .int .i64 k ∧ r ∉ rs.take k ∧ Below w.heap.size w wr ∧ w.heap.size + 1 ≤ wr.heap.size ∧ wr.cell? ⟨w.heap.size, 0, none⟩ = some (.int .i64 r.left) ∧ wr.cell? ⟨w.heap.size, 1, none⟩ = some (.slice A' r.right.length c')
def HasI (xs ys : List Sym) (W : World) (s i : Value) (wr : World) : Prop :=
  ∃ m : Nat, m ≤ xs.length ∧ i = .int .i64 m ∧ s = .bool (decide (xs.take m = ys.take m)) ∧ Below W.heap.size W wr

theorem snoc_dec (a b : List Sym) (s t : Sym) : decide (a ++ [s] = b ++ [t]) = (decide (a = b) && decide (s = t)) := by
  rw [← Bool.decide_and]
  congr 1
  refine propext ⟨fun h => ?_, fun h => by rw [h.1, h.2]⟩
  obtain ⟨h1, h2⟩ := List.append_inj' h rfl
  exact ⟨h1, by simpa using h2⟩
theorem notin_snoc {rs : List Rule} {r x : Rule} {k : Nat} (h : r ∉ rs.take k) (hx : rs[k]? = some x) (hne : r ≠ x) : r ∉ rs.take (k + 1) := by
  rw [take_snoc hx]
  simp [h, hne]

set_option maxRecDepth 100000 in
set_option maxHeartbeats 1000000 in
theorem has_any (A A' : Option Addr) (c c' : Nat) (rs : List Rule) (r : Rule) (S : Nat → Prop) (w : World) (hm : rs.length ≤ 9223372036854775807) (hm' : r.right.length ≤ 9223372036854775807) (hA : Els w S rs A) (hA' : Els w S r.right A') :
    Calls Tryd.prog 50 #[.slice A rs.length c, .agg #[.int .i64 r.left, .slice A' r.right.length c']] w
      fun e w' => e = .returned (.bool (decide (r ∈ rs))) ∧ Below w.heap.size w w' := by
  obtain ⟨rl, rr⟩ := r
  dsimp only at *
  go_enter Tryd.func50, Tryd.ntmps50
  go_wp2
  go_loopw [11] (fun i wr => HasR rs ⟨rl, rr⟩ A' c' w i wr) (fun i _ => rs.length - (intOf i).toNat)
  case atStart => exact ⟨0, Nat.zero_le _, rfl, by simp, (Below.refl _ _).alloc (Nat.le_refl _) _, by simp, by go_simp, by go_simp⟩
  case round =>
    obtain ⟨wo, hwo⟩ : ∃ wo : World, wo = wr := ⟨_, rfl⟩
    subst hwo
    obtain ⟨k, hk, rfl, hnot, hb, hsz, hb0, hb1⟩ := hrel
    dsimp only at hb0 hb1
    have Hnot := Lib.hid hnot
    have Hb := Lib.hid hb
    have HE' := Lib.hid (hA'.below hb)
    have HE := Lib.hid (hA.below hb)
    clear hnot hb hA hA'
    have z1 : w.heap.size < wo.heap.size := by omega
    have z2 : w.heap.size < wo.heap.size + 1 := by omega
    by_cases hlt : k < rs.length
    · obtain ⟨x, hx⟩ := get_some hlt
      obtain ⟨b, o, Ax, cx, rfl, _, hbs, hi, hxc, hcx, hEx, hc0, hc1⟩ := HE.out.rule hx
      have HEx := Lib.hid hEx
      have Hx := Lib.hid hx
      clear hx hEx
      obtain ⟨xl, xr⟩ := x
      dsimp only at *
      have hxm : xr.length ≤ 9223372036854775807 := by omega
      have next : (⟨rl, rr⟩ : Rule) ≠ ⟨xl, xr⟩ → ∀ W', Below wo.heap.size wo W' → HasR rs ⟨rl, rr⟩ A' c' w (.int .i64 ((k : Int) + 1)) W' := fun hne W' hW =>
        ⟨k + 1, by omega, by go_num, notin_snoc Hnot.out Hx.out hne, bthen Hb.out hW Hb.out.size, Nat.le_trans hsz hW.size, ((bcell hW).1 _ _ z1).trans hb0, ((bcell hW).1 _ _ z1).trans hb1⟩
      have Next := Lib.hid next
      clear next
      by_cases hl : xl = rl
      · subst hl
        by_cases hn : xr.length = rr.length
        · have hn' : ((xr.length : Int) != (rr.length : Int)) = false := by simp; omega
          have Hn := Lib.hid hn
          clear hn
          go_wp2
          go_loopw [7, 32] (fun s i wr => HasI xr rr (wo.alloc (.cells #[.int .i64 xl, .slice Ax xr.length cx] 60)) s i wr) (fun _ i _ => xr.length - (intOf i).toNat)
          case atStart => exact ⟨0, Nat.zero_le _, rfl, by simp, Below.refl _ _⟩
          case round =>
            obtain ⟨m, hm, rfl, rfl, hbm⟩ := hrel
            obtain ⟨hcm, _⟩ := bcell hbm
            have p0 := hcm wo.heap.size 0 (by simp)
            have p1 := hcm wo.heap.size 1 (by simp)
            have p2 := hcm w.heap.size 1 (by simp; omega)
            have p3 := hcm w.heap.size 0 (by simp; omega)
            simp only [World.cell?_alloc_lt _ _ ⟨w.heap.size, 1, none⟩ z1, World.cell?_alloc_lt _ _ ⟨w.heap.size, 0, none⟩ z1, hb0, hb1, World.cell?_alloc_new] at p0 p1 p2 p3
            simp at p0 p1
            have Hbm := Lib.hid hbm
            have hba : Below wo.heap.size wo (wo.alloc (.cells #[.int .i64 xl, .slice Ax xr.length cx] 60)) := (Below.refl _ _).alloc (Nat.le_refl _) _
            have HEm := Lib.hid (((HEx.out).below hba).below hbm)
            have HEm' := Lib.hid (((HE'.out).below hba).below hbm)
            clear hcm hbm hba
            by_cases hml : m < xr.length
            · obtain ⟨s, hs⟩ := get_some hml
              obtain ⟨s', hs'⟩ := get_some (show m < rr.length by have := Hn.out; omega)
              obtain ⟨bs, os, rfl, _, hbs1, _, hs0, hs1⟩ := HEm.out.sym hs
              obtain ⟨bs', os', rfl, _, hbs2, _, hs2, hs3⟩ := HEm'.out.sym hs'
              have Ht := Lib.hid (take_snoc hs)
              have Ht' := Lib.hid (take_snoc hs')
              clear hs hs'
              obtain ⟨st, sn⟩ := s
              obtain ⟨st', sn'⟩ := s'
              dsimp only at *
              have hm0 : (0 : Int) ≤ (m : Int) := by omega
              have hm1 : (m : Int) < (xr.length : Int) := by omega
              have hm2 : (m : Int) < (rr.length : Int) := by have := Hn.out; omega
              have fin : ∀ (b : Bool), b = (decide (xr.take m = rr.take m) && decide ((⟨st, sn⟩ : Sym) = ⟨st', sn'⟩)) → ∀ nq, HasI xr rr (wo.alloc (.cells #[.int .i64 xl, .slice (some ⟨bs, os, none⟩) xr.length cx] 60)) (.bool b) (.int .i64 ((m : Int) + 1)) (wr.drewN nq) := fun b hb nq =>
                ⟨m + 1, by omega, by go_num, by rw [hb, Ht.out, Ht'.out, snoc_dec], bdrewN Hbm.out⟩
              have Fin := Lib.hid fin
              clear fin
              cases hd : decide (xr.take m = rr.take m)
              · go_wp2
                go_quiet (fail)
                go_wp2
                go_roundw
                case rel => exact Fin.out _ (by rw [hd]; rfl) _
                case measure => simp [intOf]; omega
              · by_cases he : (⟨st, sn⟩ : Sym) = ⟨st', sn'⟩
                · injection he with h1 h2
                  subst h1; subst h2
                  go_wp2
                  go_quiet (fail)
                  go_wp2
                  go_roundw
                  case rel => exact Fin.out _ (by rw [hd]; simp) _
                  case measure => simp [intOf]; omega
                · have Hd := Lib.hid (show decide ((⟨st, sn⟩ : Sym) = ⟨st', sn'⟩) = false by simpa using he)
                  have Hne := Lib.hid he
                  clear he
                  by_cases htt : st = st'
                  · subst htt
                    have hzz : (sn == sn') = false := by simp; rintro rfl; exact Hne.out rfl
                    go_wp2
                    go_quiet (fail)
                    go_wp2
                    go_roundw
                    case rel => exact Fin.out _ (by rw [Hd.out]; simp) _
                    case measure => simp [intOf]; omega
                  · have htb : (st == st') = false := by simpa using htt
                    clear htt
                    go_wp2
                    go_quiet (fail)
                    go_wp2
                    go_roundw
                    case rel => exact Fin.out _ (by rw [Hd.out]; simp) _
                    case measure => simp [intOf]; omega
            · have hmx : m = xr.length := by omega
              subst hmx
              have htk : decide (xr.take xr.length = rr.take xr.length) = decide (xr = rr) := by rw [List.take_length, Hn.out, List.take_length]
              rw [htk]
              clear htk p0 p1 p2 p3
              by_cases he : xr = rr
              · have E0 := Lib.hid (show decide ((⟨xl, rr⟩ : Rule) ∈ rs) = true by rw [decide_eq_true_eq, ← he]; exact List.mem_of_getElem? Hx.out)
                have hd : decide (xr = rr) = true := by simpa using he
                rw [hd]
                clear hd he
                go_wp2
                go_ret
                exact ⟨ret_bool E0.out.symm, bthen (Hb.out.alloc Hb.out.size _) Hbm.out (by simp; omega)⟩
              · have hd : decide (xr = rr) = false := by simpa using he
                have He := Lib.hid he
                rw [hd]
                clear hd he
                go_wp2
                go_roundw
                case rel => exact Next.out (fun e => He.out (by injection e with _ e2; exact e2.symm)) _ (bthen ((Below.refl _ _).alloc (Nat.le_refl _) _) Hbm.out (by simp))
                case measure => simp [intOf]; omega
        · have hn' : ((xr.length : Int) != (rr.length : Int)) = true := by simp; omega
          have Hn := Lib.hid hn
          clear hn
          go_wp2
          go_roundw
          case rel => exact Next.out (fun e => Hn.out (by injection e with _ e2; rw [e2])) _ ((Below.refl _ _).alloc (Nat.le_refl _) _)
          case measure => simp [intOf]; omega
      · have hl' : (xl != rl) = true := by simpa using hl
        have Hl := Lib.hid hl
        clear hl
        go_wp2
        go_roundw
        case rel => exact Next.out (fun e => Hl.out (by injection e with e1 _; exact e1.symm)) _ ((Below.refl _ _).alloc (Nat.le_refl _) _)
        case measure => simp [intOf]; omega
    · have e0 : decide ((⟨rl, rr⟩ : Rule) ∈ rs) = false := by
        have h := Hnot.out
        rw [List.take_of_length_le (by omega)] at h
        simpa using h
      have E0 := Lib.hid e0
      clear e0
      go_wp2
      go_ret
      exact ⟨ret_bool E0.out.symm, Hb.out⟩
end Go.Proofs.YtjdojogjogenkaaDoor

/- The numbers of the rules that a predicate names; a valid grammar's number of rules. -/
namespace Go.Proofs.YtjdojogjogenkaaDoor
open Go.RowKit
set_option linter.unusedVariables false

def whereFrom (p : Rule → Bool) : Nat → List Rule → List Int
  | _, [] => []
  | k, r :: rs => if p r then (k : Int) :: whereFrom p (k + 1) rs else whereFrom p (k + 1) rs
def whereE (g : Gram) (n : Int) : Int := if checkI g ≠ 0 then checkI g else if n < 0 ∨ g.nons ≤ n then 1 else 0
def whereL (g : Gram) (n : Int) (p : Rule → Bool) : List Int := if whereE g n = 0 then whereFrom p 0 g.rules else []
theorem whereFrom_len (p : Rule → Bool) : ∀ (k : Nat) (rs : List Rule), (whereFrom p k rs).length ≤ rs.length
  | _, [] => by simp [whereFrom]
  | k, r :: rs => by
    have := whereFrom_len p (k + 1) rs
    unfold whereFrom; split <;> simp <;> omega
/-- A row of numbers of the call's own, and an error number. -/
def RetInts (w : World) (l : List Int) (er : Int) (e : Ending) (w' : World) : Prop :=
  ∃ v, e = .returned (.tuple #[v, .int .i64 er]) ∧ Own w' (fun _ => False) w.heap.size 3 v l ∧ Below w.heap.size w w'
theorem checkI_nonneg_len {g : Gram} (h : checkI g = 0) : g.rules.length ≤ 32 := by
  unfold checkI at h
  split at h
  · omega
  · split at h <;> omega
end Go.Proofs.YtjdojogjogenkaaDoor

/- The comparisons answer zero just at equal things. No program is named here. -/
namespace Go.Proofs.YtjdojogjogenkaaDoor

theorem cmpI_zero {a b : Int} : cmpI a b = 0 ↔ a = b := by unfold cmpI; split <;> (try split) <;> omega
theorem symCmp_zero {a b : Sym} : symCmp a b = 0 ↔ a = b := by
  obtain ⟨t, n⟩ := a
  obtain ⟨t', n'⟩ := b
  unfold symCmp
  by_cases h : t = t'
  · subst h; simp [cmpI_zero]
  · simp only [if_neg h]
    constructor
    · intro e; split at e <;> cases e
    · intro e; injection e with e1 _; exact absurd e1 h
theorem symsCmp_zero : ∀ {a b : List Sym}, symsCmp a b = 0 ↔ a = b
  | [], [] => by simp [symsCmp]
  | [], _ :: _ => by simp [symsCmp]
  | _ :: _, [] => by simp [symsCmp]
  | x :: xs, y :: ys => by
    unfold symsCmp
    by_cases h : symCmp x y = 0
    · rw [if_pos h, symsCmp_zero]
      have := symCmp_zero.1 h
      subst this; simp
    · rw [if_neg h]
      constructor
      · intro e; exact absurd e h
      · intro e; injection e with e1 _; exact absurd (symCmp_zero.2 e1) h
theorem ruleCmp_zero {a b : Rule} : ruleCmp a b = 0 ↔ a = b := by
  obtain ⟨l, r⟩ := a
  obtain ⟨l', r'⟩ := b
  unfold ruleCmp orI orI orI
  by_cases h : cmpI l l' = 0
  · simp only [h, if_true]
    have := cmpI_zero.1 h
    subst this
    by_cases h2 : symsCmp r r' = 0
    · have e := symsCmp_zero.1 h2
      subst e
      simp [h2]
    · simp only [if_neg h2]
      constructor
      · intro e; exact absurd e h2
      · intro e; injection e with _ e2; exact absurd (symsCmp_zero.2 e2) h2
  · simp only [if_neg h]
    constructor
    · intro e; exact absurd e h
    · intro e; injection e with e1 _; exact absurd (cmpI_zero.2 e1) h
end Go.Proofs.YtjdojogjogenkaaDoor

/- Contract: gram.Yield. -/
namespace Go.Proofs.YtjdojogjogenkaaDoor
open Go.RowKit
set_option linter.unusedVariables false

/-- The state of Yield: O holds the word, V the closure. -/
def YS (B O V : Nat) (out : List Int) (w : World) : Prop :=
  ∃ v, Blk' w O 33 #[v] ∧ Own w (fun _ => False) B 3 v out ∧ Blk' w V 116 #[.func (.func 63) #[] #[.pointer (some ⟨O, 0, none⟩), .pointer (some ⟨V, 0, none⟩)]] ∧ O < V ∧ V < B ∧ B ≤ w.heap.size
theorem YS.below {B O V : Nat} {out : List Int} {w w' : World} (h : YS B O V out w) (hb : Below w.heap.size w w') : YS B O V out w' := by
  obtain ⟨v, h1, h2, h3, h4, h5, h6⟩ := h
  exact ⟨v, h1.below hb h1.lt, h2.below hb (Nat.le_refl _), h3.below hb h3.lt, h4, h5, Nat.le_trans h6 hb.size⟩

def YLoop (B O V : Nat) (out : List Int) (ks : List Tree) (w : World) (G : Nat) (cells : Array Value) (i : Value) (wr : World) : Prop :=
  ∃ m : Nat, m ≤ ks.length ∧ i = .int .i64 m ∧ YS B O V (out ++ yields (ks.take m)) wr ∧ Below O w wr

set_option maxRecDepth 100000 in
set_option maxHeartbeats 1000000 in
theorem visit_any (B O V : Nat) (S : Nat → Prop) (hS : ∀ b, S b → b < O) : ∀ (t : Tree) (A : Option Addr) (c : Nat) (out : List Int) (w : World), I64 t.rule → I64 t.term → t.kids.length ≤ c → c ≤ 9223372036854775807 → Els w S t.kids A → YS B O V out w → out.length + (yieldT t).length ≤ 1000000 →
    Calls Tryd.prog 63 #[.agg #[.int .i64 t.rule, .int .i64 t.term, .slice A t.kids.length c], .pointer (some ⟨O, 0, none⟩), .pointer (some ⟨V, 0, none⟩)] w
      fun e w' => e = .returned (.tuple #[]) ∧ YS B O V (out ++ yieldT t) w' ∧ Below O w w' := by
  refine Tree.ind ?_
  intro r t ks ih A c out w hr ht hlc hc hA hst hlen
  have IH := Lib.hid ih
  have HS := Lib.hid hS
  have hr' : I64 r := hr
  have ht' : I64 t := ht
  dsimp only [Tree.rule, Tree.term, Tree.kids] at *
  have HA := Lib.hid hA
  have hba : Below w.heap.size w (w.alloc (.cells #[.int .i64 r, .int .i64 t, .slice A ks.length c] 27)) := (Below.refl _ _).alloc (Nat.le_refl _) _
  have hs1 := hst.below hba
  have hO : O < w.heap.size := by obtain ⟨v, h1, _⟩ := hst; exact h1.lt
  by_cases h0 : r < 0
  · have E := Lib.hid (show yieldT ⟨r, t, ks⟩ = [t] by unfold yieldT; rw [if_pos h0])
    obtain ⟨v, h1, h2, h3, h4, h5, h6⟩ := hs1
    have hlen2 : out.length + 1 ≤ 1000000 := by have h := hlen; rw [E.out] at h; simpa using h
    have hcap1 : (out.length + 1) * 8 ≤ 140737488355328 := by omega
    have hcap2 : out.length + 1 ≤ 9223372036854775807 := by omega
    have g0 : (w.alloc (.cells #[.int .i64 r, .int .i64 t, .slice A ks.length c] 27)).cell? ⟨O, 0, none⟩ = some v := h1.cell 0
    have gO : w.cell? ⟨O, 0, none⟩ = some v := by
      have h := hba.cell (p := ⟨O, 0, none⟩) hO
      rw [← h]; exact g0
    have H2 := Lib.hid (h2.alloc (.cells #[.int .i64 t] 3))
    have H1 := Lib.hid (And.intro (h1.alloc (.cells #[.int .i64 t] 3)) (h3.alloc (.cells #[.int .i64 t] 3)))
    have H4 := Lib.hid (And.intro h4 (And.intro h5 h6))
    have HT := Lib.hid ht'
    obtain ⟨Ao, co, e1, _⟩ := h2.form
    subst e1
    have HN : Hid (some O ≠ (Value.slice Ao out.length co).ownBlock ∧ some V ≠ (Value.slice Ao out.length co).ownBlock) := Lib.hid ⟨fun e => by have := (h2.block _ e.symm).1; omega, fun e => by have := (h2.block _ e.symm).1; omega⟩
    have hBw : B ≤ w.heap.size + 1 := by simp at h6; omega
    have HBa := Lib.hid (((Below.refl O w).alloc (by omega) (.cells #[.int .i64 r, .int .i64 t, .slice A ks.length c] 27)).alloc (by simp; omega) (.cells #[.int .i64 t] 3))
    clear hst hba h1 h2 h3 h4 h5 h6 hlen hlen2 ih hr ht hA g0
    go_enter Tryd.func63, Tryd.ntmps63
    go_wp2_with (at_builtin; refine wpList_own1 _ rfl _ _ elemInt rfl rfl H2.out t [.int .i64 t] rfl (by have h := At.new (w.alloc (.cells #[.int .i64 r, .int .i64 t, .slice A ks.length c] 27)) [.int .i64 t] 3; rwa [show (w.alloc (.cells #[.int .i64 r, .int .i64 t, .slice A ks.length c] 27)).heap.size = w.heap.size + 1 from by simp] at h) ⟨rfl, HT.out⟩ hcap1 hcap2 (by simp; omega) ?_; intro v' w3 hown3 hg3 hat3; obtain ⟨A3, k3, hv3, _⟩ := hown3.form; rw [snoc_len] at hv3; subst hv3; have hb3 := H1.out.1.grown hg3 HN.out.1; have c3 := hb3.cell 0; have f3 := hb3.frozen 0; have H3 := Lib.hid (And.intro hown3 (And.intro hg3 (And.intro hb3 (H1.out.2.grown hg3 HN.out.2)))); clear hown3 hg3 hat3 hb3; simp at c3)
    refine bodyPost_ret (v := .tuple #[]) (by simp [results, Tryd.results63, go_sem]) rfl ?_
    refine ⟨rfl, ⟨_, H3.out.2.2.1.set_ 0 _, ?_, H3.out.2.2.2.far (by have := H4.out.1; show V ≠ O; omega) _, H4.out.1, H4.out.2.1, ?_⟩, ?_⟩
    · rw [E.out]
      exact H3.out.1.setCell (fun e => by have := (H3.out.1.block _ e).1; have := H4.out; dsimp only at *; omega) (by have := H4.out; simp; omega) _
    · have := H3.out.2.1.size; simp [World.setCell] at *; omega
    · exact (HBa.out.grown H3.out.2.1 (by simp; omega) (fun k hk => by have := (H2.out.block k hk).1; have := H4.out; omega)).setCell (Nat.le_refl _) _
  · have E := Lib.hid (show yieldT ⟨r, t, ks⟩ = yields ks by unfold yieldT; rw [if_neg h0])
    have HB0 := Lib.hid ((Below.refl O w).alloc (by omega) (.cells #[.int .i64 r, .int .i64 t, .slice A ks.length c] 27))
    have HS1 := Lib.hid hs1
    have HLn := Lib.hid hlen
    clear hst hs1 hba hlen ih hr ht hA
    go_enter Tryd.func63, Tryd.ntmps63
    go_wp2_with fail
    go_loopw [17] (fun i wr => YLoop B O V out ks w w.heap.size #[.int .i64 r, .int .i64 t, .slice A ks.length c] i wr) (fun i _ => ks.length - (intOf i).toNat)
    case atStart => exact ⟨0, Nat.zero_le _, rfl, by simpa [yields] using HS1.out, HB0.out⟩
    case round =>
      obtain ⟨wo, hwo⟩ : ∃ wo : World, wo = wr := ⟨_, rfl⟩
      subst hwo
      obtain ⟨m, hm, rfl, hY, hb⟩ := hrel
      have HY := Lib.hid hY
      have HB := Lib.hid hb
      clear hY hb
      by_cases hlt : m < ks.length
      · obtain ⟨x, hx⟩ := get_some hlt
        obtain ⟨b, o, Ax, cx, rfl, hSb, hbs, hi, hi2, hx1, hx2, hEx, hc0, hc1, hc2⟩ := (HA.out.belowB HB.out HS.out).tree hx
        have hm0 : (0 : Int) ≤ (m : Int) := by omega
        have HM := Lib.hid (List.mem_of_getElem? hx)
        have HE := Lib.hid (yields_take hx)
        have hbo : Below wo.heap.size wo (wo.alloc (.cells #[.int .i64 x.rule, .int .i64 x.term, .slice Ax x.kids.length cx] 27)) := (Below.refl _ _).alloc (Nat.le_refl _) _
        have HY2 := Lib.hid (HY.out.below hbo)
        have HEx := Lib.hid (hEx.below hbo)
        have HI := Lib.hid (And.intro hi hi2)
        have hl2 : Hid ((out ++ yields (ks.take m)).length + (yieldT x).length ≤ 1000000) := Lib.hid (by
          have h := HLn.out
          rw [E.out, yields_drop ks (m + 1), HE.out] at h
          simp only [List.length_append] at h ⊢
          omega)
        obtain ⟨v, q1, q2, q3, q4⟩ := HY.out
        have gv : wo.cell? ⟨V, 0, none⟩ = some (.func (.func 63) #[] #[.pointer (some ⟨O, 0, none⟩), .pointer (some ⟨V, 0, none⟩)]) := q3.cell 0
        have hV : V < wo.heap.size := q3.lt
        have hOw : O ≤ wo.heap.size := Nat.le_of_lt q1.lt
        clear q1 q2 q3 q4 hx hEx hbo hi hi2
        go_wp2_with fail
        refine (IH.out x HM.out Ax cx _ _ HI.out.1 HI.out.2 hx1 hx2 HEx.out HY2.out hl2.out).mono ?_
        rintro e w2 ⟨rfl, hy2, hb2⟩
        have HZ := Lib.hid (And.intro hy2 ((HB.out.alloc hOw _).trans hb2))
        clear hy2 hb2
        go_wp2
        go_roundw
        case rel => exact ⟨m + 1, hlt, by go_num, by rw [HE.out, ← List.append_assoc]; exact HZ.out.1, HZ.out.2⟩
        case measure => simp [intOf]; omega
      · go_wp2
        go_end0
        refine ⟨rfl, ?_, HB.out⟩
        have h := HY.out
        rw [List.take_of_length_le (by omega)] at h
        rw [E.out]
        exact h

set_option maxRecDepth 100000 in
set_option maxHeartbeats 1000000 in
theorem yield_any (t : Tree) (A : Option Addr) (c : Nat) (S : Nat → Prop) (w : World) (hS : ∀ b, S b → b < w.heap.size) (hr : I64 t.rule) (ht : I64 t.term) (hlc : t.kids.length ≤ c) (hc : c ≤ 9223372036854775807) (hA : Els w S t.kids A) (hlen : (yieldT t).length ≤ 1000000) :
    Calls Tryd.prog 25 #[.agg #[.int .i64 t.rule, .int .i64 t.term, .slice A t.kids.length c]] w (RetOwn w (fun _ => False) 3 (yieldT t)) := by
  have HA := Lib.hid hA
  have HI := Lib.hid (And.intro hr ht)
  have HL := Lib.hid hlen
  have HS : Hid (∀ b, S b → b < w.heap.size + 1) := Lib.hid (fun b hb => by have := hS b hb; omega)
  clear hA hr ht hlen
  go_enter Tryd.func25, Tryd.ntmps25
  go_wp2_with fail
  have hb0 : Below w.heap.size w (((w.alloc (.cells #[.int .i64 t.rule, .int .i64 t.term, .slice A t.kids.length c] 27)).alloc (.cells #[.slice none 0 0] 33)).alloc (.cells #[.func (.func 63) #[] #[.pointer (some ⟨w.heap.size + 1, 0, none⟩), .pointer (some ⟨w.heap.size + 1 + 1, 0, none⟩)]] 116)) := (((Below.refl _ _).alloc (Nat.le_refl _) _).alloc (by simp) _).alloc (by simp; omega) _
  have hY : YS (w.heap.size + 1 + 1 + 1) (w.heap.size + 1) (w.heap.size + 1 + 1) [] (((w.alloc (.cells #[.int .i64 t.rule, .int .i64 t.term, .slice A t.kids.length c] 27)).alloc (.cells #[.slice none 0 0] 33)).alloc (.cells #[.func (.func 63) #[] #[.pointer (some ⟨w.heap.size + 1, 0, none⟩), .pointer (some ⟨w.heap.size + 1 + 1, 0, none⟩)]] 116)) :=
    ⟨_, (Blk'.new' _ _ _ (by simp)).alloc _, Own.nil _ _ _ _, Blk'.new' _ _ _ (by simp), by omega, by omega, by simp⟩
  have HB := Lib.hid hb0
  refine (visit_any (w.heap.size + 1 + 1 + 1) (w.heap.size + 1) (w.heap.size + 1 + 1) S HS.out t A c [] _ HI.out.1 HI.out.2 hlc hc (HA.out.below hb0) hY (by simpa using HL.out)).mono ?_
  rintro e w2 ⟨rfl, hy2, hb2⟩
  obtain ⟨v, q1, q2, q3, q4⟩ := hy2
  have g0 : w2.cell? ⟨w.heap.size + 1, 0, none⟩ = some v := q1.cell 0
  obtain ⟨A3, n3, k3, rfl⟩ : ∃ A n c, v = Value.slice A n c := by obtain ⟨A, c, e, _⟩ := q2.form; exact ⟨_, _, _, e⟩
  have HZ := Lib.hid (And.intro q2 (HB.out.trans (hb2.mono (by omega))))
  clear hb0 hY q1 q2 q3 q4 hb2
  go_wp2
  go_ret
  exact ⟨_, rfl, by have h := HZ.out.1.base (show w.heap.size ≤ w.heap.size + 1 + 1 + 1 by omega); simpa using h, HZ.out.2⟩
end Go.Proofs.YtjdojogjogenkaaDoor

/- Contracts: gram.where, gram.Of. -/
namespace Go.Proofs.YtjdojogjogenkaaDoor
open Go.RowKit
set_option linter.unusedVariables false


def WhereL (g : Gram) (p : Rule → Bool) (A : Option Addr) (c : Nat) (w : World) (v i : Value) (wr : World) : Prop :=
  ∃ (k : Nat) (out : List Int), k ≤ g.rules.length ∧ i = .int .i64 k ∧ out.length ≤ k ∧ whereFrom p 0 g.rules = out ++ whereFrom p k (g.rules.drop k) ∧ Below w.heap.size w wr ∧ Own wr (fun _ => False) w.heap.size 3 v out
set_option maxRecDepth 100000 in
set_option maxHeartbeats 1000000 in
theorem where_any (g : Gram) (n : Int) (A : Option Addr) (c : Nat) (S : Nat → Prop) (w : World) (F : Nat) (cap : Value) (p : Rule → Bool) (hlc : g.rules.length ≤ c) (hc : c ≤ 9223372036854775807) (hA : Els w S g.rules A) (hgo : IsGo F)
    (hcall : ∀ (x : Rule) (W : World), x ∈ g.rules → Below w.heap.size w W → ∀ (A' : Option Addr) (c' : Nat), x.right.length ≤ c' → c' ≤ 9223372036854775807 → Els W S x.right A' →
      Calls Tryd.prog F #[.agg #[.int .i64 x.left, .slice A' x.right.length c'], cap] W fun e W' => e = .returned (.bool (p x)) ∧ Below W.heap.size W W') :
    Calls Tryd.prog 108 #[.agg #[.int .i64 g.terms, .int .i64 g.nons, .int .i64 g.start, .slice A g.rules.length c], .int .i64 n, .func (.func F) #[] #[cap]] w (RetInts w (whereL g n p) (whereE g n)) := by
  have HC := Lib.hid hcall
  have hgo' : ∀ (args : Array Value) (W : World), (callFunc F args).run Tryd.prog W = .ok (.enter F args) W := hgo
  clear hcall hgo
  obtain ⟨t, nn, s0, rs⟩ := g
  dsimp only at *
  have hba : Below w.heap.size w (w.alloc (.cells #[.int .i64 t, .int .i64 nn, .int .i64 s0, .slice A rs.length c] 24)) := (Below.refl _ _).alloc (Nat.le_refl _) _
  have Hba := Lib.hid hba
  have HA1 := Lib.hid (hA.below hba)
  clear hba
  go_enter Tryd.func108, Tryd.ntmps108
  go_wp2_with fail
  refine (check_any ⟨t, nn, s0, rs⟩ A c S _ hlc hc HA1.out).mono ?_
  rintro e w1 ⟨rfl, hb1⟩
  have Hb1 := Lib.hid (bthen Hba.out hb1 (by simp))
  have hG1 := (Blk'.new w 24 #[.int .i64 t, .int .i64 nn, .int .i64 s0, .slice A rs.length c]).below hb1 (by simp)
  have g11 : w1.cell? ⟨w.heap.size, 1, none⟩ = some (.int .i64 nn) := hG1.cell 1
  have g13 : w1.cell? ⟨w.heap.size, 3, none⟩ = some (.slice A rs.length c) := hG1.cell 3
  clear hb1 hG1 Hba HA1
  by_cases h0 : checkI ⟨t, nn, s0, rs⟩ = 0
  · have hlen := checkI_nonneg_len h0
    dsimp only at hlen
    rw [h0]
    by_cases hn : n < 0 ∨ nn ≤ n
    · have E1 := Lib.hid (show whereE ⟨t, nn, s0, rs⟩ n = 1 by simp [whereE, h0, hn])
      have E2 := Lib.hid (show whereL ⟨t, nn, s0, rs⟩ n p = [] by simp [whereL, E1.out])
      clear h0
      by_cases hn0 : n < 0
      · clear hn
        go_wp2
        go_ret2
        exact ⟨_, by rw [E1.out]; rfl, by rw [E2.out]; exact Own.nil _ _ _ _, Hb1.out⟩
      · have hn1 : nn ≤ n := by omega
        clear hn
        go_wp2
        go_ret2
        exact ⟨_, by rw [E1.out]; rfl, by rw [E2.out]; exact Own.nil _ _ _ _, Hb1.out⟩
    · have E1 := Lib.hid (show whereE ⟨t, nn, s0, rs⟩ n = 0 by simp [whereE, h0, hn])
      have E2 := Lib.hid (show whereL ⟨t, nn, s0, rs⟩ n p = whereFrom p 0 rs by simp [whereL, E1.out])
      have hn0 : ¬ n < 0 := by omega
      have hn1 : ¬ nn ≤ n := by omega
      clear h0 hn
      go_wp2
      go_loopw [9, 28] (fun v i wr => WhereL ⟨t, nn, s0, rs⟩ p A c w v i wr) (fun _ i _ => rs.length - (intOf i).toNat)
      case atStart => exact ⟨0, [], Nat.zero_le _, rfl, by simp, by simp, Hb1.out, Own.nil _ _ _ _⟩
      case round =>
        obtain ⟨wo, hwo⟩ : ∃ wo : World, wo = wr := ⟨_, rfl⟩
        subst hwo
        obtain ⟨k, out, hk, rfl, hol, hr, hb, hown⟩ := hrel
        dsimp only at hk hr
        have Hr := Lib.hid hr
        have HB := Lib.hid hb
        have HO := Lib.hid hown
        clear hr hb hown Hb1
        by_cases hlt : k < rs.length
        · obtain ⟨r, hx⟩ := get_some hlt
          obtain ⟨b, o, Ar, cr, rfl, hSb, hbs, hi, hrc, hcr, hEr, hc0, hc1⟩ := (hA.below HB.out).rule hx
          have Hd := Lib.hid (drop_cons hx)
          have HM := Lib.hid (List.mem_of_getElem? hx)
          obtain ⟨l, rr⟩ := r
          dsimp only at *
          have hba2 : Below wo.heap.size wo (wo.alloc (.cells #[.int .i64 l, .slice Ar rr.length cr] 60)) := (Below.refl _ _).alloc (Nat.le_refl _) _
          have HE2 := Lib.hid (hEr.below hba2)
          have HB2 := Lib.hid (bthen HB.out hba2 HB.out.size)
          have HO2 := Lib.hid (HO.out.below hba2 (Nat.le_refl _))
          clear hx hEr hba2
          have hk0 : (0 : Int) ≤ (k : Int) := by omega
          go_wp2_with fail
          refine (HC.out ⟨l, rr⟩ _ HM.out HB2.out Ar cr hrc hcr HE2.out).mono ?_
          rintro e w2 ⟨rfl, hb2⟩
          have HB3 := Lib.hid (bthen HB2.out hb2 HB2.out.size)
          have HO3 := Lib.hid (HO2.out.below hb2 (Nat.le_refl _))
          clear hb2
          cases hp : p ⟨l, rr⟩
          · have E3 := Lib.hid (show whereFrom p 0 rs = out ++ whereFrom p (k + 1) (rs.drop (k + 1)) by rw [Hr.out, Hd.out, whereFrom, hp]; rfl)
            clear hp
            go_wp2
            go_roundw
            case rel => exact ⟨k + 1, out, hlt, by go_num, by omega, E3.out, HB3.out, HO3.out⟩
            case measure => simp [intOf]; omega
          · have E3 := Lib.hid (show whereFrom p 0 rs = (out ++ [(k : Int)]) ++ whereFrom p (k + 1) (rs.drop (k + 1)) by rw [Hr.out, Hd.out, whereFrom, hp]; simp)
            clear hp
            have hcap1 : (out.length + 1) * 8 ≤ 140737488355328 := by omega
            have hcap2 : out.length + 1 ≤ 9223372036854775807 := by omega
            have HI : Hid (I64 (k : Int)) := Lib.hid ⟨by omega, by omega⟩
            go_wp2_with (at_builtin; refine wpList_own1 _ rfl _ _ elemInt rfl rfl (HO3.out.alloc _) (k : Int) [.int .i64 (k : Int)] rfl (At.new _ _ _) ⟨rfl, HI.out⟩ hcap1 hcap2 (Nat.le_trans HB3.out.size ((Below.refl _ _).alloc (Nat.le_refl _) _).size) ?_; intro v' w3 hown3 hg3 hat3; have H3 := Lib.hid (And.intro hown3 hg3); clear hown3 hg3 hat3)
            go_roundw
            case rel => exact ⟨k + 1, out ++ [(k : Int)], hlt, by go_num, by simp; omega, E3.out, bgrown (HB3.out.alloc HB3.out.size _) H3.out.2 (HO3.out.alloc _) (Nat.le_refl _) (Nat.le_trans HB3.out.size ((Below.refl _ _).alloc (Nat.le_refl _) _).size), H3.out.1⟩
            case measure => simp [intOf]; omega
        · have E4 := Lib.hid (show whereL ⟨t, nn, s0, rs⟩ n p = out by rw [E2.out, Hr.out, List.drop_of_length_le (by omega), whereFrom, List.append_nil])
          go_wp2
          go_ret2
          exact ⟨_, by rw [E1.out]; rfl, by rw [E4.out]; exact HO.out, HB.out⟩
  · have E1 := Lib.hid (show whereE ⟨t, nn, s0, rs⟩ n = checkI ⟨t, nn, s0, rs⟩ by simp [whereE, h0])
    have E2 := Lib.hid (show whereL ⟨t, nn, s0, rs⟩ n p = [] by simp [whereL, E1.out, h0])
    have hne : (checkI ⟨t, nn, s0, rs⟩ != 0) = true := by simpa using h0
    generalize checkI ⟨t, nn, s0, rs⟩ = ce at *
    clear h0
    go_wp2
    go_ret2
    exact ⟨_, by rw [E1.out]; rfl, by rw [E2.out]; exact Own.nil _ _ _ _, Hb1.out⟩

theorem of1_any (l n : Int) (sl : Value) (A : Option Addr) (k c G : Nat) (w : World) (g0 : w.cell? ⟨G, 0, none⟩ = some (.int .i64 n)) :
    Calls Tryd.prog 109 #[.agg #[.int .i64 l, .slice A k c], .pointer (some ⟨G, 0, none⟩)] w fun e w' => e = .returned (.bool (l == n)) ∧ Below w.heap.size w w' := by
  have hG : G < w.heap.size := World.block_lt_of_cell? w _ g0
  go_enter Tryd.func109, Tryd.ntmps109
  go_wp2
  go_ret
  exact ⟨rfl, (Below.refl _ _).alloc (Nat.le_refl _) _⟩

def ofL (g : Gram) (n : Int) : List Int := whereL g n (fun r => r.left == n)
set_option maxRecDepth 100000 in
theorem of_any (g : Gram) (n : Int) (A : Option Addr) (c : Nat) (S : Nat → Prop) (w : World) (hlc : g.rules.length ≤ c) (hc : c ≤ 9223372036854775807) (hA : Els w S g.rules A) :
    Calls Tryd.prog 62 #[.agg #[.int .i64 g.terms, .int .i64 g.nons, .int .i64 g.start, .slice A g.rules.length c], .int .i64 n] w (RetInts w (ofL g n) (whereE g n)) := by
  obtain ⟨t, nn, s0, rs⟩ := g
  dsimp only at *
  have hba : Below w.heap.size w ((w.alloc (.cells #[.int .i64 t, .int .i64 nn, .int .i64 s0, .slice A rs.length c] 24)).alloc (.cells #[.int .i64 n] 3)) := ((Below.refl _ _).alloc (Nat.le_refl _) _).alloc (by simp) _
  have Hba := Lib.hid hba
  have HA1 := Lib.hid (hA.below hba)
  have HG1 := Lib.hid (Blk'.new' (g := w.heap.size + 1) (w.alloc (.cells #[.int .i64 t, .int .i64 nn, .int .i64 s0, .slice A rs.length c] 24)) 3 #[.int .i64 n] (by simp))
  clear hba
  go_enter Tryd.func62, Tryd.ntmps62
  go_wp2_with fail
  refine (where_any ⟨t, nn, s0, rs⟩ n A c S _ _ _ (fun r => r.left == n) hlc hc HA1.out (isGo_of Tryd.func109 (by kernel_rfl) (by kernel_rfl)) (fun x W _ hW A' c' _ _ _ => of1_any x.left n .nilIface A' _ c' (w.heap.size + 1) W ((HG1.out.below hW (by simp)).cell 0))).mono ?_
  rintro e w1 ⟨v, rfl, hown, hb1⟩
  have HO := Lib.hid hown
  have HB := Lib.hid (bthen Hba.out hb1 (by simp; omega))
  clear hown hb1
  go_wp2
  go_ret2
  exact ⟨v, rfl, HO.out.base (by simp; omega), HB.out⟩
end Go.Proofs.YtjdojogjogenkaaDoor

/- Contract: parlkeep2's works answers true. -/
namespace Go.Proofs.YtjdojogjogenkaaDoor
open Go.RowKit
set_option linter.unusedVariables false

def workG (s : Int) : Gram := ⟨1, 1, s, [⟨0, [⟨true, 0⟩, ⟨false, 0⟩]⟩, ⟨0, []⟩]⟩
theorem workE : whereE (workG 0) 0 = 0 := by decide +kernel
theorem workL : ofL (workG 0) 0 = [0, 1] := by decide +kernel
theorem workC : checkI (workG 1) = 1 := by decide +kernel

theorem work_els (w w' : World) (o : Obj) (n : Nat) (hn : n = w.heap.size)
    (hb : Below (n + 2) ((w.alloc (.cells #[.bool true, .int .i64 0, .bool false, .int .i64 0] 40)).alloc (.cells #[.int .i64 0, .slice (some ⟨n, 0, none⟩) 2 2, .int .i64 0, .slice none 0 0] 60)) w') :
    Els w' (fun b => b < n + 2) (workG 0).rules (some ⟨n + 1, 0, none⟩) := by
  subst hn
  have b1 : Blk' w' w.heap.size 40 #[.bool true, .int .i64 0, .bool false, .int .i64 0] := ((Blk'.new w _ _).alloc _).below hb (by omega)
  have b2 : Blk' w' (w.heap.size + 1) 60 #[.int .i64 0, .slice (some ⟨w.heap.size, 0, none⟩) 2 2, .int .i64 0, .slice none 0 0] := (Blk'.new' _ _ _ (by simp)).below hb (by omega)
  have i0 : I64 0 := ⟨by omega, by omega⟩
  refine els_of_blk [[.int .i64 0, .slice (some ⟨w.heap.size, 0, none⟩) 2 2], [.int .i64 0, .slice none 0 0]] b2 rfl rfl (rd_two ⟨_, rfl, i0, Vl.of_slice rfl (by simp) (by omega) ?_⟩ ⟨_, rfl, i0, Vl.nil⟩) (by omega)
  exact els_of_blk [[.bool true, .int .i64 0], [.bool false, .int .i64 0]] b1 rfl rfl (rd_two ⟨rfl, i0⟩ ⟨rfl, i0⟩) (by omega)

set_option maxRecDepth 100000 in
theorem works_any (w : World) : Calls Tryd.prog 24 #[] w fun e w' => e = .returned (.bool true) ∧ Below w.heap.size w w' := by
  go_enter Tryd.func24, Tryd.ntmps24
  go_wp2_with fail
  have hE := work_els w _ (.cells #[] 0) w.heap.size rfl (((Below.refl _ _).alloc (by simp) (.cells #[.int .i64 1, .int .i64 1, .int .i64 0, .slice (some ⟨w.heap.size + 1, 0, none⟩) 2 2] 24)))
  refine (of_any (workG 0) 0 (some ⟨w.heap.size + 1, 0, none⟩) 2 _ _ (by decide) (by omega) hE).mono ?_
  rintro e w1 ⟨v, rfl, hown, hb1⟩
  rw [workE]
  rw [workL] at hown
  obtain ⟨Av, cv, hv, _⟩ := hown.form
  subst hv
  have hG1 := (Blk'.new' (g := w.heap.size + 2) ((w.alloc (.cells #[.bool true, .int .i64 0, .bool false, .int .i64 0] 40)).alloc (.cells #[.int .i64 0, .slice (some ⟨w.heap.size, 0, none⟩) 2 2, .int .i64 0, .slice none 0 0] 60)) 24 #[.int .i64 1, .int .i64 1, .int .i64 0, .slice (some ⟨w.heap.size + 1, 0, none⟩) 2 2] (by simp)).below hb1 (by simp)
  have hba := (((Below.refl w.heap.size w).alloc (Nat.le_refl _) (.cells #[.bool true, .int .i64 0, .bool false, .int .i64 0] 40)).alloc (by simp) (.cells #[.int .i64 0, .slice (some ⟨w.heap.size, 0, none⟩) 2 2, .int .i64 0, .slice none 0 0] 60)).alloc (by simp; omega) (.cells #[.int .i64 1, .int .i64 1, .int .i64 0, .slice (some ⟨w.heap.size + 1, 0, none⟩) 2 2] 24)
  have HB1 := Lib.hid (bthen hba hb1 (by simp; omega))
  have HE1 := Lib.hid (hE.below hb1)
  have c0 : w1.cell? ⟨w.heap.size + 1 + 1, 0, none⟩ = some (.int .i64 1) := hG1.cell 0
  have c1 : w1.cell? ⟨w.heap.size + 1 + 1, 1, none⟩ = some (.int .i64 1) := hG1.cell 1
  have c2 : w1.cell? ⟨w.heap.size + 1 + 1, 2, none⟩ = some (.int .i64 0) := hG1.cell 2
  have c3 : w1.cell? ⟨w.heap.size + 1 + 1, 3, none⟩ = some (.slice (some ⟨w.heap.size + 1, 0, none⟩) 2 2) := hG1.cell 3
  have f2 : w1.frozen? ⟨w.heap.size + 1 + 1, 2, none⟩ = false := hG1.frozen 2
  have hz1 := hG1.lt
  clear hown hb1 hG1 hba hE
  go_wp2_with fail
  have hE2 : Els (w1.setCell ⟨w.heap.size + 1 + 1, 2, none⟩ (.int .i64 1)) (fun b => b < w.heap.size + 2) (workG 1).rules (some ⟨w.heap.size + 1, 0, none⟩) :=
    HE1.out.keep (fun p hp _ => World.cell?_setCell_other _ _ _ _ (fun e => by rw [← e] at hp; simp at hp)) (fun _ h => h)
  refine (check_any (workG 1) (some ⟨w.heap.size + 1, 0, none⟩) 2 _ _ (by decide) (by omega) hE2).mono ?_
  rintro e w2 ⟨rfl, hb2⟩
  rw [workC]
  have HB2 := Lib.hid hb2
  clear hb2 hE2 c0 c1 c2 c3 f2
  go_wp2
  go_ret
  exact ⟨rfl, bthen (HB1.out.setCell (p := ⟨w.heap.size + 1 + 1, 2, none⟩) (by show w.heap.size ≤ w.heap.size + 1 + 1; omega) _) HB2.out (by simp; exact HB1.out.size)⟩
end Go.Proofs.YtjdojogjogenkaaDoor

