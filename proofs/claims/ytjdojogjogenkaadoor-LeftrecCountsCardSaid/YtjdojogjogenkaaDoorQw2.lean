/- Contracts of this proof, of several texts joined: FstP, CycP, Union, Sets, ConcatSym, ContInt, CntL, IntRow, CloneSymO, ChainK, Make, Has, WhereP, CmpZero, MkWord. -/
import Derived.Test.YtjdojogjogenkaaDoorQw1
import Derived.Test.YtjdojogjogenkaaDoorQp2
import Derived.Test.YtjdojogjogenkaaDoorQp1
import Derived.Deep.QuietTactic
import Derived.BigQuiet
import Derived.Deep.RegionHeld3
import Derived.Test.YtjdojogjogenkaaDoorChecked
import Derived.StillTailTactics
import Derived.Laws.CopyOwn
import Derived.Deep.OwnRows
import Derived.IntWalk
import Derived.Lib.SliceRun
import Derived.Deep.Cut
/- What stands in Null and First, in words that name no way of computing it: the program's sets, the table of lengths and the reference's relation between symbols agree. No program is named here. -/
namespace Go.Proofs.YtjdojogjogenkaaDoor
open Go.RowKit
set_option linter.unusedVariables false
inductive Nul (g : Gram) : Nat → Prop where
 | mk (q : Rule) (hq : q ∈ g.rules) (ht : ∀ x ∈ q.right, x.term = false) (h : ∀ x ∈ q.right, Nul g x.n.toNat) : Nul g q.left.toNat
theorem Nul.of {g : Gram} {q : Rule} (hq : q ∈ g.rules) (h : ∀ x ∈ q.right, x.term = false ∧ Nul g x.n.toNat) : Nul g q.left.toNat := .mk q hq (fun x hx => (h x hx).1) (fun x hx => (h x hx).2)
def Nuls (g : Gram) (l : List Sym) : Prop := ∀ x ∈ l, x.term = false ∧ Nul g x.n.toNat
def nodeS (m : Nat) (s : Sym) : Nat := if s.term then s.n.toNat else m + s.n.toNat
theorem sumR_zero {l : List Int} : ∀ (ss : List Sym), sumR l 0 ss = 0 ↔ ∀ s ∈ ss, s.term = false ∧ l.getD s.n.toNat 0 = 0
 | [] => by simp [sumR]
 | s :: ss => by
  have ih := sumR_zero (l := l) ss
  rw [sumR_cons l s ss 0 (Int.le_refl 0)]
  constructor
  ·intro h
   split at h
   ·rename_i hp
    have h1 := sumR_from l ss (0 + partR l s) (by omega) (by omega)
    have h2 : partR l s = 0 := by omega
    rw [h2, Int.add_zero] at h
    have h3 : s.term = false ∧ l.getD s.n.toNat 0 = 0 := by
     unfold partR at h2
     cases hs : s.term
     ·rw [hs] at h2; exact ⟨rfl, by simpa using h2⟩
     ·rw [hs] at h2; simp at h2
    intro x hx
    rcases List.mem_cons.1 hx with rfl | hx
    ·exact h3
    ·exact ih.1 h x hx
   ·omega
  ·intro h
   obtain ⟨h1, h2⟩ := h s (by simp)
   have h3 : partR l s = 0 := by unfold partR; rw [h1]; simpa using h2
   rw [h3, if_pos (Int.le_refl 0), Int.add_zero]
   exact ih.2 fun x hx => h x (by simp [hx])
theorem LFix.nul {g : Gram} {n : Nat} {l : List Int} (h : LFix g n l) (hr : RulesIn g n) {x : Nat} (hx : x < n) : l.getD x 0 = 0 ↔ Nul g x := by
 constructor
 ·intro h0
  obtain ⟨T, hT⟩ := h.rank (fun q hq => (hr q hq).2.1)
  have key : ∀ (t x : Nat), T x = t → x < n → l.getD x 0 = 0 → Nul g x := by
   intro t
   induction t using Nat.strongRecOn with
   | _ t ih =>
    intro x ht hx h0
    obtain ⟨q, hq, hql, hs, hp⟩ := hT x hx (by omega)
    rw [h0] at hs
    have h1 := (sumR_zero q.right).1 hs
    rw [← hql]
    exact .of hq fun y hy => ⟨(h1 y hy).1, ih (T y.n.toNat) (by rw [← ht]; exact hp y hy (h1 y hy).1) y.n.toNat rfl ((hr q hq).2.2.2 y hy |>.2 (h1 y hy).1) (h1 y hy).2⟩
  exact key _ x rfl hx h0
 ·intro hN
  clear hx
  induction hN with
  | mk q hq hh _ ih =>
   have h1 : sumR l 0 q.right = 0 := (sumR_zero q.right).2 fun y hy => ⟨hh y hy, ih y hy⟩
   have h2 := h.low hq (hr q hq).2.1 (by omega)
   omega
theorem ofFrom_snd {e : List Bool} {f : List (List Bool)} : ∀ (l : List Sym) (out : List Bool), (ofFrom e f out l).2 = true ↔ ∀ x ∈ l, x.term = false ∧ e.getD x.n.toNat false = true
 | [], out => by simp [ofFrom]
 | x :: xs, out => by
  unfold ofFrom
  cases ht : x.term
  ·cases he : e.getD x.n.toNat false
   ·simp only [Bool.false_eq_true, if_false]
    exact ⟨fun h => (by cases h), fun h => (by have := (h x (by simp)).2; rw [he] at this; cases this)⟩
   ·have ih := ofFrom_snd (e := e) (f := f) xs (orRow out (f.getD x.n.toNat []))
    simp only [Bool.false_eq_true, if_false, if_true]
    rw [ih]
    refine ⟨fun h y hy => ?_, fun h y hy => h y (by simp [hy])⟩
    rcases List.mem_cons.1 hy with rfl | hy
    ·exact ⟨ht, he⟩
    ·exact h y hy
  ·simp only [if_true]
   exact ⟨fun h => (by cases h), fun h => (by have := (h x (by simp)).1; rw [ht] at this; cases this)⟩
def InX (f : List (List Bool)) (x : Sym) (t : Nat) : Prop := if x.term then x.n.toNat = t else (f.getD x.n.toNat [])[t]? = some true
theorem ofFrom_fst {m : Nat} {e : List Bool} {f : List (List Bool)} (hrow : ∀ r ∈ f, r.length = m) : ∀ (l : List Sym) (out : List Bool), out.length = m → (∀ x ∈ l, x.term = false → x.n.toNat < f.length) → ∀ t, t < m →
  ((ofFrom e f out l).1[t]? = some true ↔ out[t]? = some true ∨ ∃ (i : Nat) (x : Sym), l[i]? = some x ∧ (∀ y ∈ l.take i, y.term = false ∧ e.getD y.n.toNat false = true) ∧ InX f x t)
 | [], out, _, _, t, _ => by simp [ofFrom]
 | x :: xs, out, hl, hx, t, ht => by
  have hor : x.term = false → ∀ (a : List Bool), a.length = m → ((orRow a (f.getD x.n.toNat []))[t]? = some true ↔ a[t]? = some true ∨ InX f x t) := fun hxt a ha => by
   unfold InX
   rw [if_neg (by simp [hxt])]
   have hlt := hx x (by simp) hxt
   have hfl : (f.getD x.n.toNat []).length = m := by
    rw [List.getD_eq_getElem?_getD, List.getElem?_eq_getElem hlt]
    exact hrow _ (List.getElem_mem hlt)
   exact ⟨fun h => orRow_or _ _ _ h, fun h => h.elim (fun h => orRow_left _ _ _ h) (fun h => orRow_right _ _ _ (by omega) h)⟩
  have first : InX f x t → ∃ (i : Nat) (y : Sym), (x :: xs)[i]? = some y ∧ (∀ z ∈ (x :: xs).take i, z.term = false ∧ e.getD z.n.toNat false = true) ∧ InX f y t := fun h => ⟨0, x, rfl, by simp, h⟩
  unfold ofFrom
  cases hxt : x.term
  ·simp only [Bool.false_eq_true, if_false]
   have ho := hor hxt out hl
   cases he : e.getD x.n.toNat false
   ·simp only [Bool.false_eq_true, if_false]
    rw [ho]
    constructor
    ·rintro (h | h)
     ·exact .inl h
     ·exact .inr (first h)
    ·rintro (h | ⟨i, y, hi, hp, hy⟩)
     ·exact .inl h
     ·cases i with
      | zero => simp at hi; subst hi; exact .inr hy
      | succ i => have := (hp x (by simp)).2; rw [he] at this; cases this
   ·simp only [if_true]
    rw [ofFrom_fst hrow xs _ (by rw [orRow_len]; exact hl) (fun y hy => hx y (by simp [hy])) t ht, ho]
    constructor
    ·rintro ((h | h) | ⟨i, y, hi, hp, hy⟩)
     ·exact .inl h
     ·exact .inr (first h)
     ·exact .inr ⟨i + 1, y, by simpa using hi, fun z hz => by
       rw [List.take_succ_cons] at hz
       rcases List.mem_cons.1 hz with rfl | hz
       ·exact ⟨hxt, he⟩
       ·exact hp z hz, hy⟩
    ·rintro (h | ⟨i, y, hi, hp, hy⟩)
     ·exact .inl (.inl h)
     ·cases i with
      | zero => simp at hi; subst hi; exact .inl (.inr hy)
      | succ i => exact .inr ⟨i, y, by simpa using hi, fun z hz => hp z (by rw [List.take_succ_cons]; exact List.mem_cons_of_mem _ hz), hy⟩
  ·simp only [if_true]
   rw [List.getElem?_set]
   have hX : InX f x t ↔ x.n.toNat = t := by unfold InX; rw [hxt]; simp
   constructor
   ·intro h
    split at h
    ·rename_i e1
     exact .inr (first (hX.2 e1))
    ·exact .inl h
   ·rintro (h | ⟨i, y, hi, hp, hy⟩)
    ·split
     ·rw [if_pos (by omega)]
     ·exact h
    ·cases i with
     | zero =>
      simp at hi; subst hi
      rw [if_pos (hX.1 hy), if_pos (by have := hX.1 hy; omega)]
     | succ i => have := (hp x (by simp)).1; rw [hxt] at this; cases this
def EdgF (g : Gram) (m a b : Nat) : Prop := ∃ (q : Rule) (i : Nat) (x : Sym), q ∈ g.rules ∧ q.right[i]? = some x ∧ Nuls g (q.right.take i) ∧ a = m + q.left.toNat ∧ b = nodeS m x
inductive WkF (g : Gram) (m : Nat) : Nat → Nat → Prop where
 | refl (a : Nat) : WkF g m a a
 | head (a b c : Nat) (hs : EdgF g m a b) (h : WkF g m b c) : WkF g m a c
theorem WkF.term {g : Gram} {m a t : Nat} (ha : a < m) (h : WkF g m a t) : a = t := by
 cases h with
 | refl => rfl
 | head _ b _ hs _ => obtain ⟨q, i, x, _, _, _, e, _⟩ := hs; omega
theorem WkF.trans {g : Gram} {m a b c : Nat} (h : WkF g m a b) (k : WkF g m b c) : WkF g m a c := by
 induction h with
 | refl => exact k
 | head a b _ hs _ ih => exact .head a b _ hs (ih k)
def MeantS (g : Gram) (m : Nat) (s : List Bool × List (List Bool)) : Prop := (∀ x : Nat, s.1[x]? = some true → Nul g x) ∧ ∀ x t : Nat, Gt s.2 x t → WkF g m (m + x) t
theorem getD_some_true {l : List Bool} {k : Nat} : l.getD k false = true ↔ l[k]? = some true := by
 rw [List.getD_eq_getElem?_getD]
 cases l[k]? <;> simp
theorem inX_meant {g : Gram} {m : Nat} {s : List Bool × List (List Bool)} (h : MeantS g m s) {x : Sym} {t : Nat} (hx : InX s.2 x t) : WkF g m (nodeS m x) t := by
 unfold InX at hx
 unfold nodeS
 split
 ·rename_i e; rw [if_pos e] at hx; rw [hx]; exact .refl _
 ·rename_i e; rw [if_neg e] at hx; exact h.2 _ _ hx
theorem MeantS.step {g : Gram} {m n : Nat} {s : List Bool × List (List Bool)} (h : MeantS g m s) (hsh : Shape m n s) (hn : ∀ q ∈ g.rules, q.left.toNat < n ∧ ∀ x ∈ q.right, x.term = false → x.n.toNat < n) (q : Rule) (hq : q ∈ g.rules) : MeantS g m (stepR m q s) := by
 obtain ⟨hql, hqr⟩ := hn q hq
 have hrow : ∀ r ∈ s.2, r.length = m := fun r hr => by
  obtain ⟨i, hi, rfl⟩ := List.getElem_of_mem hr
  exact hsh.rows i _ (List.getElem?_eq_getElem hi)
 refine ⟨fun x hx => ?_, fun x t hx => ?_⟩
 ·unfold stepR at hx
  dsimp only at hx
  split at hx
  ·rename_i he
   rw [List.getElem?_set] at hx
   split at hx
   ·rename_i e
    rw [← e]
    have h1 := (ofFrom_snd q.right (List.replicate m false)).1 he
    exact .of hq fun y hy => ⟨(h1 y hy).1, h.1 _ (getD_some_true.1 (h1 y hy).2)⟩
   ·exact h.1 x hx
  ·exact h.1 x hx
 ·unfold stepR Gt at hx
  dsimp only at hx
  rw [List.getD_eq_getElem?_getD, List.getElem?_set] at hx
  split at hx
  ·rename_i e
   subst e
   rw [if_pos (by rw [hsh.f]; exact hql)] at hx
   simp only [Option.getD_some] at hx
   rcases orRow_or _ _ _ hx with hx | hx
   ·exact h.2 _ _ hx
   ·have ht : t < m := by have := (List.getElem?_eq_some_iff.1 hx).1; rw [ofFrom_len, List.length_replicate] at this; exact this
    rcases (ofFrom_fst hrow q.right (List.replicate m false) (by simp) (fun x hx hxt => by rw [hsh.f]; exact hqr x hx hxt) t ht).1 hx with h1 | ⟨i, y, hi, hp, hy⟩
    ·rw [List.getElem?_replicate] at h1; split at h1 <;> simp at h1
    ·exact .head _ (nodeS m y) _ ⟨q, i, y, hq, hi, fun z hz => ⟨(hp z hz).1, h.1 _ (getD_some_true.1 (hp z hz).2)⟩, rfl, rfl⟩ (inX_meant h hy)
  ·rw [← List.getD_eq_getElem?_getD] at hx
   exact h.2 _ _ hx
theorem MeantS.pass {g : Gram} {m n : Nat} (hn : ∀ q ∈ g.rules, q.left.toNat < n ∧ ∀ x ∈ q.right, x.term = false → x.n.toNat < n) : ∀ (rs : List Rule) (s : List Bool × List (List Bool)), (∀ q ∈ rs, q ∈ g.rules) → MeantS g m s → Shape m n s → MeantS g m (passR m rs s) ∧ Shape m n (passR m rs s)
 | [], s, _, h, hs => ⟨h, hs⟩
 | q :: rs, s, hr, h, hs => MeantS.pass hn rs (stepR m q s) (fun x hx => hr x (by simp [hx])) (h.step hs hn q (hr q (by simp))) (hs.step q (hn q (hr q (by simp))).1)
theorem MeantS.iter {g : Gram} {m n : Nat} (hn : ∀ q ∈ g.rules, q.left.toNat < n ∧ ∀ x ∈ q.right, x.term = false → x.n.toNat < n) : ∀ k, MeantS g m (iterR m g.rules k (initS m n)) ∧ Shape m n (iterR m g.rules k (initS m n))
 | 0 => ⟨⟨fun x hx => by simp [iterR, initS, List.getElem?_replicate] at hx, fun x t hx => by
   unfold Gt at hx
   simp only [iterR, initS] at hx
   rw [List.getD_eq_getElem?_getD, List.getElem?_replicate] at hx
   split at hx
   ·simp [List.getElem?_replicate] at hx
   ·simp at hx⟩, Shape.init m n⟩
 | k + 1 => by
  obtain ⟨h1, h2⟩ := MeantS.iter hn k
  exact MeantS.pass hn g.rules _ (fun q hq => hq) h1 h2
theorem Stable.meant {g : Gram} {m n : Nat} {e : List Bool} {f : List (List Bool)} (h : Stable g m n e f) (hn : ∀ q ∈ g.rules, q.left.toNat < n ∧ ∀ x ∈ q.right, (x.term = false → x.n.toNat < n) ∧ (x.term = true → x.n.toNat < m)) :
  (∀ x : Nat, e[x]? = some true ↔ Nul g x) ∧ ∀ x t : Nat, t < m → (Gt f x t ↔ WkF g m (m + x) t) := by
 have hn' : ∀ q ∈ g.rules, q.left.toNat < n ∧ ∀ x ∈ q.right, x.term = false → x.n.toNat < n := fun q hq => ⟨(hn q hq).1, fun x hx => ((hn q hq).2 x hx).1⟩
 have hM : MeantS g m (e, f) := by
  obtain ⟨k, hk⟩ := h.iter
  rw [hk]
  exact (MeantS.iter hn' k).1
 have hsh := h.shape
 have hrow : ∀ r ∈ f, r.length = m := fun r hr => by
  obtain ⟨i, hi, rfl⟩ := List.getElem_of_mem hr
  exact hsh.rows i _ (List.getElem?_eq_getElem hi)
 have hE : ∀ x : Nat, Nul g x → e[x]? = some true := fun x hx => by
  induction hx with
  | mk q hq hh _ ih =>
   have h2 := congrArg (fun s => s.1) (h.fix q hq)
   simp only [stepR] at h2
   rw [if_pos ((ofFrom_snd q.right _).2 fun y hy => ⟨hh y hy, getD_some_true.2 (ih y hy)⟩)] at h2
   rw [← h2, List.getElem?_set, if_pos rfl, if_pos (by have := hsh.e; simp at this; rw [this]; exact (hn q hq).1)]
 refine ⟨fun x => ⟨hM.1 x, hE x⟩, fun x t ht => ?_⟩
 have key : ∀ a : Nat, WkF g m a t → (∀ x : Nat, a = m + x → Gt f x t) ∧ (a < m → a = t) := by
  intro a ha
  induction ha with
  | refl a => exact ⟨fun x hx => by omega, fun _ => rfl⟩
  | head a b c hs _ ih =>
   obtain ⟨q, i, y, hq, hi, hp, rfl, rfl⟩ := hs
   obtain ⟨i1, i2⟩ := ih ht
   refine ⟨fun x hx => ?_, fun hlt => by omega⟩
   have ex : x = q.left.toNat := by omega
   subst ex
   have hqf : q.left.toNat < f.length := by have := hsh.f; simp at this; rw [this]; exact (hn q hq).1
   have hym := List.mem_of_getElem? hi
   have hin : InX f y c := by
    unfold InX
    cases hy : y.term
    ·simp only [Bool.false_eq_true, if_false]
     exact i1 y.n.toNat (by unfold nodeS; rw [hy]; rfl)
    ·simp only [if_true]
     have e1 : nodeS m y = y.n.toNat := by unfold nodeS; rw [hy]; rfl
     rw [e1] at i2
     exact i2 (((hn q hq).2 y hym).2 hy)
   have h3 : (ofFrom e f (List.replicate m false) q.right).1[c]? = some true :=
    (ofFrom_fst hrow q.right (List.replicate m false) (by simp) (fun x hx hxt => by have := hsh.f; simp at this; rw [this]; exact ((hn q hq).2 x hx).1 hxt) c ht).2 (.inr ⟨i, y, hi, fun z hz => ⟨(hp z hz).1, getD_some_true.2 (hE _ (hp z hz).2)⟩, hin⟩)
   have h2 := congrArg (fun s => s.2[q.left.toNat]?) (h.fix q hq)
   simp only [stepR, List.getElem?_set] at h2
   rw [if_pos trivial, if_pos hqf] at h2
   unfold Gt
   rw [List.getD_eq_getElem?_getD, ← h2]
   simp only [Option.getD_some]
   refine orRow_right _ _ _ ?_ h3
   rw [ofFrom_len, List.length_replicate, List.getD_eq_getElem?_getD, List.getElem?_eq_getElem hqf]
   exact hsh.rows _ _ (List.getElem?_eq_getElem hqf)
 exact ⟨hM.2 x t, fun hw => (key _ hw).1 x rfl⟩
end Go.Proofs.YtjdojogjogenkaaDoor
/- Plain laws of cycles: ways by rules that pass on; the shortest cycle; a cycle that is found. No program is named here. -/
namespace Go.Proofs.YtjdojogjogenkaaDoor
open Go.RowKit
set_option linter.unusedVariables false
def PassN (g : Gram) (q : Rule) (c : Int) : Prop := ∃ i : Nat, q.right[i]? = some ⟨false, c⟩ ∧ Nuls g (q.right.take i ++ q.right.drop (i + 1))
def PassE (g : Gram) (a b : Nat) : Prop := ∃ q ∈ g.rules, q.left = (a : Int) ∧ PassN g q (b : Int)
def TabR (g : Gram) : Nat → Rule → Nat → Prop
 | 0, q, t => PassN g q (t : Int)
 | k + 1, q, t => ∃ c : Int, PassN g q c ∧ ∃ q' ∈ g.rules, q'.left = c ∧ TabR g k q' t
def Stp (E : Nat → Nat → Prop) : Nat → Nat → Nat → Prop
 | 0, a, b => a = b
 | k + 1, a, b => ∃ c, E a c ∧ Stp E k c b
theorem Stp.app {E : Nat → Nat → Prop} : ∀ (j k a b c : Nat), Stp E j a b → Stp E k b c → Stp E (j + k) a c
 | 0, k, a, b, c, h1, h2 => by
  have e : a = b := h1
  subst e
  rw [Nat.zero_add]; exact h2
 | j + 1, k, a, b, c, ⟨d, h1, h2⟩, h3 => by
  rw [show j + 1 + k = (j + k) + 1 from by omega]
  exact ⟨d, h1, Stp.app j k d b c h2 h3⟩
theorem Stp.plus {E : Nat → Nat → Prop} : ∀ (k a b : Nat), Stp E (k + 1) a b → Plus E a b
 | 0, a, b, ⟨c, h1, h2⟩ => by
  have e : c = b := h2
  subst e
  exact .one _ h1
 | k + 1, a, b, ⟨c, h1, h2⟩ => (Plus.one c h1).trans (Stp.plus k c b h2)
theorem Plus.stp {E : Nat → Nat → Prop} {a b : Nat} (h : Plus E a b) : ∃ k, Stp E (k + 1) a b := by
 induction h with
 | one b h => exact ⟨0, b, h, rfl⟩
 | snoc b c _ hs ih =>
  obtain ⟨k, hk⟩ := ih
  exact ⟨k + 1, Stp.app (k + 1) 1 a b c hk ⟨c, hs, rfl⟩⟩
theorem Stp.nodes {E : Nat → Nat → Prop} : ∀ (k a b : Nat), Stp E k a b → ∃ l : List Nat, l.length = k ∧ (∀ (i x : Nat), l[i]? = some x → Stp E i a x ∧ Stp E (k - i) x b)
 | 0, a, b, h => ⟨[], rfl, fun i x hx => by simp at hx⟩
 | k + 1, a, b, ⟨c, h1, h2⟩ => by
  obtain ⟨l, hl, hx⟩ := Stp.nodes k c b h2
  refine ⟨a :: l, by simp [hl], fun i x hi => ?_⟩
  cases i with
  | zero =>
   simp at hi
   subst hi
   exact ⟨rfl, c, h1, h2⟩
  | succ i =>
   have h3 := hx i x (by simpa using hi)
   refine ⟨⟨c, h1, h3.1⟩, ?_⟩
   rw [show k + 1 - (i + 1) = k - i from by omega]
   exact h3.2
theorem nodup_le : ∀ (n : Nat) (l : List Nat), l.Nodup → (∀ x ∈ l, x < n) → l.length ≤ n
 | 0, l, _, h => by
  cases l with
  | nil => simp
  | cons x l => exact absurd (h x (by simp)) (by omega)
 | n + 1, l, hd, h => by
  have ih := nodup_le n (l.erase n) (hd.erase n) (fun x hx => by
   have h1 := (hd.mem_erase_iff).1 hx
   have := h x h1.2
   omega)
  have : l.length ≤ (l.erase n).length + 1 := by
   rw [List.length_erase]
   split <;> omega
  omega
theorem not_nodup : ∀ (l : List Nat), ¬ l.Nodup → ∃ (i j x : Nat), i < j ∧ l[i]? = some x ∧ l[j]? = some x
 | [], h => absurd List.nodup_nil h
 | a :: l, h => by
  by_cases hm : a ∈ l
  ·obtain ⟨j, hj⟩ := List.mem_iff_getElem?.1 hm
   exact ⟨0, j + 1, a, by omega, rfl, hj⟩
  ·have h1 : ¬ l.Nodup := fun hl => h (List.nodup_cons.2 ⟨hm, hl⟩)
   obtain ⟨i, j, x, h2, h3, h4⟩ := not_nodup l h1
   exact ⟨i + 1, j + 1, x, by omega, h3, h4⟩
theorem stp_short {E : Nat → Nat → Prop} {n : Nat} (hE : ∀ a b, E a b → a < n ∧ b < n) : ∀ (k a : Nat), Stp E (k + 1) a a → ∃ j x, j < n ∧ Stp E (j + 1) x x
 | k, a, h => by
  by_cases hk : k < n
  ·exact ⟨k, a, hk, h⟩
  ·obtain ⟨l, hl, hx⟩ := Stp.nodes (k + 1) a a h
   have hlt : ∀ x ∈ l, x < n := fun x hm => by
    obtain ⟨i, hi⟩ := List.mem_iff_getElem?.1 hm
    have h1 := (hx i x hi).2
    have h2 := (List.getElem?_eq_some_iff.1 hi).1
    obtain ⟨d, hd⟩ : ∃ d, k + 1 - i = d + 1 := ⟨k - i, by omega⟩
    rw [hd] at h1
    obtain ⟨c, hc, _⟩ := h1
    exact (hE x c hc).1
   have hnd : ¬ l.Nodup := fun hd => by
    have := nodup_le n l hd hlt
    omega
   obtain ⟨i, j, x, h1, h2, h3⟩ := not_nodup l hnd
   -- from place i on to x again
   have hj := (List.getElem?_eq_some_iff.1 h3).1
   obtain ⟨m, hm, hmk⟩ : ∃ m, Stp E (m + 1) x x ∧ m < k := by
    have p1 := hx i x h2
    obtain ⟨l2, hl2, hx2⟩ := Stp.nodes (k + 1 - i) x a p1.2
    -- cut the way: the first i steps and the rest from j on form a shorter way back
    have p2 := hx j x h3
    have h4 := Stp.app i (k + 1 - j) a x a p1.1 p2.2
    by_cases h0 : i + (k + 1 - j) = 0
    ·omega
    ·have h5 := Stp.app (k + 1 - j) i x a x p2.2 p1.1
     refine ⟨k + 1 - j + i - 1, ?_, by omega⟩
     rw [show k + 1 - j + i - 1 + 1 = k + 1 - j + i from by omega]
     exact h5
   exact stp_short hE m x hm
termination_by k => k
theorem tabR_stp {g : Gram} : ∀ (k : Nat) (q : Rule) (t : Nat), q ∈ g.rules → 0 ≤ q.left → (∀ q ∈ g.rules, ∀ c, PassN g q c → 0 ≤ c) → TabR g k q t → Stp (PassE g) (k + 1) q.left.toNat t
 | 0, q, t, hq, h0, _, h => ⟨t, ⟨q, hq, by omega, h⟩, rfl⟩
 | k + 1, q, t, hq, h0, hc, ⟨c, h1, q', hq', h2, h3⟩ => by
  have hc0 := hc q hq c h1
  refine ⟨c.toNat, ⟨q, hq, by omega, by rwa [Int.toNat_of_nonneg hc0]⟩, ?_⟩
  subst h2
  exact tabR_stp k q' t hq' hc0 hc h3
theorem stp_tabR {g : Gram} : ∀ (k a t : Nat), Stp (PassE g) (k + 1) a t → ∃ q ∈ g.rules, q.left = (a : Int) ∧ TabR g k q t
 | 0, a, t, ⟨c, ⟨q, hq, h1, h2⟩, h3⟩ => by
  have e : c = t := h3
  subst e
  exact ⟨q, hq, h1, h2⟩
 | k + 1, a, t, ⟨c, ⟨q, hq, h1, h2⟩, h3⟩ => by
  obtain ⟨q', hq', h4, h5⟩ := stp_tabR k c t h3
  exact ⟨q, hq, h1, (c : Int), h2, q', hq', h4, h5⟩
def RuleAt (g : Gram) (i : Int) (q : Rule) : Prop := 0 ≤ i ∧ g.rules[i.toNat]? = some q
def NextOk (g : Gram) (last k' : Int) (more t : Nat) : Prop := ∃ q q', RuleAt g last q ∧ RuleAt g k' q' ∧ PassN g q q'.left ∧ TabR g more q' t
structure CycTo (g : Gram) (k i t p : Nat) (l : List Int) : Prop where
 len : l.length = p + 1
 head : l[0]? = some (i : Int)
 next : ∀ (r : Nat) (x y : Int), l[r]? = some x → l[r + 1]? = some y → NextOk g x y (k - 2 - r) t ∧ ∀ z : Int, 0 ≤ z → z < y → ¬ NextOk g x z (k - 2 - r) t
structure CycF (g : Gram) (n k i : Nat) (q : Rule) (l : List Int) : Prop where
 k1 : 1 ≤ k ∧ k ≤ n
 rule : g.rules[i]? = some q
 tab : TabR g (k - 1) q q.left.toNat
 short : ∀ k', 1 ≤ k' → k' < k → ∀ q' ∈ g.rules, ¬ TabR g (k' - 1) q' q'.left.toNat
 first : ∀ i', i' < i → ∀ q', g.rules[i']? = some q' → ¬ TabR g (k - 1) q' q'.left.toNat
 way : CycTo g k i q.left.toNat (k - 1) l
def NoCyc (g : Gram) (n : Nat) : Prop := ∀ k', 1 ≤ k' → k' ≤ n → ∀ q' ∈ g.rules, ¬ TabR g (k' - 1) q' q'.left.toNat
structure PassIn (g : Gram) (n : Nat) : Prop where
 left : ∀ q ∈ g.rules, 0 ≤ q.left ∧ q.left < (n : Int)
 tos : ∀ q ∈ g.rules, ∀ c, PassN g q c → 0 ≤ c ∧ c < (n : Int)
theorem PassIn.e {g : Gram} {n : Nat} (h : PassIn g n) : ∀ a b, PassE g a b → a < n ∧ b < n := by
 rintro a b ⟨q, hq, h1, h2⟩
 have := h.left q hq
 have := h.tos q hq _ h2
 omega
theorem noCyc_iff {g : Gram} {n : Nat} (h : PassIn g n) : NoCyc g n ↔ ∀ a, ¬ Plus (PassE g) a a := by
 constructor
 ·intro hn a ha
  obtain ⟨k, hk⟩ := ha.stp
  obtain ⟨j, x, hj, hx⟩ := stp_short h.e k a hk
  obtain ⟨q, hq, h1, h2⟩ := stp_tabR j x x hx
  have h3 := hn (j + 1) (by omega) (by omega) q hq
  apply h3
  rw [show j + 1 - 1 = j from by omega, show q.left.toNat = x from by omega]
  exact h2
 ·intro hp k' h1 h2 q hq ht
  have h3 := tabR_stp (k' - 1) q q.left.toNat hq (h.left q hq).1 (fun q hq c hc => (h.tos q hq c hc).1) ht
  exact hp _ (Stp.plus _ _ _ h3)
theorem CycF.on {g : Gram} {n k i : Nat} {q : Rule} {l : List Int} (h : CycF g n k i q l) (hp : PassIn g n) : ∀ (r : Nat) (x : Int), l[r]? = some x → ∃ q', RuleAt g x q' ∧ Plus (PassE g) q'.left.toNat q'.left.toNat := by
 have hq := List.mem_of_getElem? h.rule
 have hc0 : ∀ q ∈ g.rules, ∀ c, PassN g q c → 0 ≤ c := fun q hq c hc => (hp.tos q hq c hc).1
 have key : ∀ (r : Nat) (x : Int), l[r]? = some x → ∃ q', RuleAt g x q' ∧ q' ∈ g.rules ∧ (r = 0 → q' = q) ∧ (r ≠ 0 → Plus (PassE g) q.left.toNat q'.left.toNat) ∧ TabR g (k - 1 - r) q' q.left.toNat := by
  intro r
  induction r with
  | zero =>
   intro x hx
   rw [h.way.head] at hx
   injection hx with hx
   subst hx
   exact ⟨q, ⟨by omega, by simpa using h.rule⟩, hq, fun _ => rfl, fun h => absurd rfl h, h.tab⟩
  | succ r ih =>
   intro x hx
   have hr := (List.getElem?_eq_some_iff.1 hx).1
   obtain ⟨y, hy⟩ := get_some (show r < l.length by omega)
   obtain ⟨q1, h1, h2, h3, h4, h5⟩ := ih y hy
   obtain ⟨⟨qa, qb, a1, a2, a3, a4⟩, _⟩ := h.way.next r y x hy hx
   have e1 : qa = q1 := by
    have := a1.2.symm.trans h1.2
    injection this
   subst e1
   have hb := List.mem_of_getElem? a2.2
   refine ⟨qb, a2, hb, fun e => by omega, fun _ => ?_, ?_⟩
   ·have hs : Plus (PassE g) qa.left.toNat qb.left.toNat := .one _ ⟨qa, h2, by have := (hp.left qa h2).1; omega, by rw [Int.toNat_of_nonneg (hp.left qb hb).1]; exact a3⟩
    by_cases e : r = 0
    ·rw [h3 e] at hs; exact hs
    ·exact (h4 e).trans hs
   ·rw [show k - 1 - (r + 1) = k - 2 - r from by omega]; exact a4
 intro r x hx
 obtain ⟨q1, h1, h2, h3, h4, h5⟩ := key r x hx
 refine ⟨q1, h1, ?_⟩
 have hback := Stp.plus _ _ _ (tabR_stp _ q1 q.left.toNat h2 (hp.left q1 h2).1 hc0 h5)
 by_cases e : r = 0
 ·have e2 := h3 e
  rw [e2] at hback ⊢
  exact hback
 ·exact hback.trans (h4 e)
end Go.Proofs.YtjdojogjogenkaaDoor
/- Rows of bools that are known whole; contract: first.union. -/
namespace Go.Proofs.YtjdojogjogenkaaDoor
open Go.RowKit
set_option linter.unusedVariables false
def UnionI (tos fr : List Bool) (b : Nat) (w : World) (ch i : Value) (wr : World) : Prop :=
 ∃ k : Nat, k ≤ fr.length ∧ i = .int .i64 k ∧ ch = .bool (decide (orRow tos (fr.take k) ≠ tos)) ∧ w.grownBy wr (some b) ∧ Blk' wr b 4 (bcells (orRow tos (fr.take k)))
set_option maxRecDepth 100000 in
set_option maxHeartbeats 1000000 in
theorem union_any (tos fr : List Bool) (b c : Nat) (A : Option Addr) (c2 n n2 : Nat) (S : Nat → Prop) (w : World) (hn : n = tos.length) (hn2 : n2 = fr.length) (hl : fr.length ≤ tos.length) (hm : fr.length ≤ 1000000) (hb : Blk' w b 4 (bcells tos)) (hA : Els w S fr A) (hS : ¬ S b) :
  Calls Tryd.prog 139 #[.slice (some ⟨b, 0, none⟩) n c, .slice A n2 c2] w fun e w' => e = .returned (.bool (decide (orRow tos fr ≠ tos))) ∧ w.grownBy w' (some b) ∧ Blk' w' b 4 (bcells (orRow tos fr)) := by
 subst hn; subst hn2
 have HB := Lib.hid hb
 have HL := Lib.hid hl
 have HM := Lib.hid hm
 have hfm : fr.length ≤ 9223372036854775807 := by omega
 clear hb hl hm
 go_enter Tryd.func139, Tryd.ntmps139
 go_wp2_with fail
 go_loopw [5, 10] (fun ch i wr => UnionI tos fr b w ch i wr) (fun _ i _ => fr.length - (intOf i).toNat)
 case atStart => exact ⟨0, Nat.zero_le _, rfl, by simp [orRow_nil], ⟨rfl, rfl, rfl, Nat.le_refl _, fun _ _ _ => rfl⟩, by rw [List.take_zero, orRow_nil]; exact HB.out⟩
 case round =>
  obtain ⟨wo, hwo⟩ : ∃ wo : World, wo = wr := ⟨_, rfl⟩
  subst hwo
  obtain ⟨k, hk, rfl, rfl, hg, hbk⟩ := hrel
  have HG := Lib.hid hg
  have HK := Lib.hid hbk
  have hf := hbk.frozen k
  have hbl := hbk.lt
  clear hg hbk
  by_cases hlt : k < fr.length
  ·have hk0 : (0 : Int) ≤ (k : Int) := by omega
   have hkt : k < tos.length := by have := HL.out; omega
   have hk1 : (k : Int) < (tos.length : Int) := by omega
   obtain ⟨y, hy⟩ := get_some hlt
   obtain ⟨x, hx⟩ := get_some hkt
   obtain ⟨b1, o1, rfl, hSb, hbs, hc0⟩ := (hA.keep (w' := wo) (S' := S) (fun p hp hp' => World.cell?_of_block (HG.out.block p.block hp' (fun e => by injection e with e; exact hS (e ▸ hp)))) (fun _ h => h)).bool hy
   have hct : wo.cell? ⟨b, k, none⟩ = some (.bool x) := (HK.out.cell k).trans (bcells_get (orRow_get _ _ _ _ _ hx (Nat.le_refl _)))
   have E1 := Lib.hid (orRow_take tos fr k x y hx hy)
   have E2 := Lib.hid (orRow_get tos fr k k x hx (Nat.le_refl _))
   have E3 := Lib.hid hx
   clear hx hy
   cases y
   ·have E4 := Lib.hid (show orRow tos (fr.take (k + 1)) = orRow tos (fr.take k) by rw [E1.out]; simp [set_same E2.out])
    go_wp2
    go_roundw
    case rel => exact ⟨k + 1, hlt, by go_num, by rw [E4.out], HG.out, by rw [E4.out]; exact HK.out⟩
    case measure => simp [intOf]; omega
   ·cases x
    ·have E5 : Hid (decide (orRow tos (fr.take (k + 1)) ≠ tos) = true) := Lib.hid (by
      rw [E1.out]
      simp only [Bool.false_or, ne_eq, decide_eq_true_eq]
      intro h
      have h2 := congrArg (fun l => l[k]?) h
      rw [E3.out] at h2
      simp only [List.getElem?_set] at h2
      have := E2.out
      have h3 := (List.getElem?_eq_some_iff.1 this).1
      simp [h3] at h2)
     have HZ := Lib.hid (show Blk' (wo.setCell ⟨b, k, none⟩ (.bool true)) b 4 (bcells (orRow tos (fr.take (k + 1)))) by have h := HK.out.set_ k (.bool true); rw [bcells_set] at h; rw [E1.out]; exact h)
     go_wp2
     go_roundw
     case rel => exact ⟨k + 1, hlt, by go_num, by rw [E5.out], only_setCell HG.out (.inl rfl) _, HZ.out⟩
     case measure => simp [intOf]; omega
    ·have E4 := Lib.hid (show orRow tos (fr.take (k + 1)) = orRow tos (fr.take k) by rw [E1.out]; simp [set_same E2.out])
     go_wp2
     go_roundw
     case rel => exact ⟨k + 1, hlt, by go_num, by rw [E4.out], HG.out, by rw [E4.out]; exact HK.out⟩
     case measure => simp [intOf]; omega
  ·have E := Lib.hid (show fr.take k = fr from List.take_of_length_le (by omega))
   go_wp2
   go_ret
   exact ⟨ret_bool (by rw [E.out]), HG.out, by have h := HK.out; rw [E.out] at h; exact h⟩
theorem orRow_self : ∀ (a : List Bool), orRow a a = a
 | [] => rfl
 | x :: a => by simp [orRow, orRow_self a]
theorem union_self (tos : List Bool) (b c n : Nat) (w : World) (hn : n = tos.length) (hm : tos.length ≤ 1000000) (hb : Blk' w b 4 (bcells tos)) :
  Calls Tryd.prog 139 #[.slice (some ⟨b, 0, none⟩) n c, .slice (some ⟨b, 0, none⟩) n c] w fun e w' => e = .returned (.bool false) ∧ w = w' := by
 subst hn
 have HB := Lib.hid hb
 have hfm : tos.length ≤ 9223372036854775807 := by omega
 clear hb
 go_enter Tryd.func139, Tryd.ntmps139
 go_wp2_with fail
 go_loop [5, 10] (fun ch i => ∃ k : Nat, k ≤ tos.length ∧ i = .int .i64 k ∧ ch = .bool false) (fun _ i => tos.length - (intOf i).toNat)
 case atStart => exact ⟨0, Nat.zero_le _, rfl, rfl⟩
 case round =>
  obtain ⟨k, hk, rfl, rfl⟩ := hrel
  by_cases hlt : k < tos.length
  ·have hk0 : (0 : Int) ≤ (k : Int) := by omega
   have hk1 : (k : Int) < (tos.length : Int) := by omega
   obtain ⟨y, hy⟩ := get_some hlt
   have hc0 : w.cell? ⟨b, k, none⟩ = some (.bool y) := (HB.out.cell k).trans (bcells_get hy)
   clear hy
   cases y
   all_goals
    go_wp2
    go_round
    case rel => exact ⟨k + 1, hlt, by go_num, rfl⟩
    case measure => simp [intOf]; omega
  ·go_wp2
   go_ret
   exact ⟨rfl, rfl⟩
end Go.Proofs.YtjdojogjogenkaaDoor
/- The memory of first.Sets; contract: its method Of. -/
namespace Go.Proofs.YtjdojogjogenkaaDoor
open Go.RowKit
set_option linter.unusedVariables false
structure SetsM (w : World) (p be bf : Nat) (bs : List Nat) (m n : Nat) (gt gn gs : Int) (sl : Value) (cf : Nat) (e : List Bool) (f : List (List Bool)) : Prop where
 ptr : Blk' w p 187 #[.int .i64 gt, .int .i64 gn, .int .i64 gs, sl, rowSl be n, .slice (some ⟨bf, 0, none⟩) n cf]
 empty : Blk' w be 4 (bcells e)
 elen : e.length = n
 flen : f.length = n
 blen : bs.length = n
 outer : ∀ (i b : Nat), bs[i]? = some b → w.cell? ⟨bf, i, none⟩ = some (rowSl b m)
 rows : ∀ (i b : Nat) (row : List Bool), bs[i]? = some b → f[i]? = some row → Blk' w b 4 (bcells row) ∧ row.length = m
 nodup : (p :: be :: bf :: bs).Nodup
 bflt : bf < w.heap.size
 cap : n ≤ cf ∧ cf ≤ 9223372036854775807
theorem SetsM.kept {X : Nat → Prop} {w w' : World} {p be bf : Nat} {bs : List Nat} {m n : Nat} {gt gn gs : Int} {sl : Value} {cf : Nat} {e : List Bool} {f : List (List Bool)} (h : SetsM w p be bf bs m n gt gn gs sl cf e f) (k : Kept X w w') (hx : ∀ b ∈ p :: be :: bf :: bs, ¬ X b) : SetsM w' p be bf bs m n gt gn gs sl cf e f :=
 ⟨h.ptr.kept k (hx _ (by simp)), h.empty.kept k (hx _ (by simp)), h.elen, h.flen, h.blen, fun i b hb => (k.cell (p := ⟨bf, i, none⟩) h.bflt (hx _ (by simp))).trans (h.outer i b hb),
  fun i b row hb hr => ⟨(h.rows i b row hb hr).1.kept k (hx _ (by simp [List.mem_of_getElem? hb])), (h.rows i b row hb hr).2⟩, h.nodup, Nat.lt_of_lt_of_le h.bflt k.size, h.cap⟩
theorem SetsM.below {w w' : World} {p be bf : Nat} {bs : List Nat} {m n : Nat} {gt gn gs : Int} {sl : Value} {cf : Nat} {e : List Bool} {f : List (List Bool)} (h : SetsM w p be bf bs m n gt gn gs sl cf e f) (k : Below w.heap.size w w') : SetsM w' p be bf bs m n gt gn gs sl cf e f :=
 h.kept (Kept.of_below (fun _ => False) k) (fun _ _ h => h)
theorem SetsM.lt {w : World} {p be bf : Nat} {bs : List Nat} {m n : Nat} {gt gn gs : Int} {sl : Value} {cf : Nat} {e : List Bool} {f : List (List Bool)} (h : SetsM w p be bf bs m n gt gn gs sl cf e f) : ∀ b ∈ p :: be :: bf :: bs, b < w.heap.size := by
 intro b hb
 rcases List.mem_cons.1 hb with rfl | hb
 ·exact h.ptr.lt
 rcases List.mem_cons.1 hb with rfl | hb
 ·exact h.empty.lt
 rcases List.mem_cons.1 hb with rfl | hb
 ·exact h.bflt
 obtain ⟨i, hi, rfl⟩ := List.getElem_of_mem hb
 have h1 : i < f.length := by have := h.blen; have := h.flen; omega
 exact (h.rows i _ _ (List.getElem?_eq_getElem hi) (List.getElem?_eq_getElem h1)).1.lt
theorem bcells_flat : ∀ (l : List Bool), bcells l = (l.map fun x => [Value.bool x]).flatten.toArray := by
 intro l
 unfold bcells
 congr 1
 induction l with
 | nil => rfl
 | cons x l ih => simp only [List.map_cons, List.flatten_cons, ih]; rfl
theorem blk_of_made {w : World} {g n : Nat} {t : TypeId} (h : w.ownsRow g t 1 (.slice (some ⟨g, 0, none⟩) n n) n (madeCells #[.bool false] (n * 1)).toList) : Blk' w g t (bcells (List.replicate n false)) := by
 obtain ⟨h1, h2⟩ := h
 rcases h2 with ⟨h3, _⟩ | ⟨g', cap, cur, h3, h4, h5, h6, h7, h8, h9⟩
 ·simp at h3
 ·injection h3 with e1 e2 e3
  injection e1 with e1
  injection e1 with e1 _ _
  subst e1; subst e3
  rw [toList_madeCells_one] at h9
  have hc : cur = bcells (List.replicate n false) := by
   apply Array.ext'
   rw [List.take_of_length_le (by simp [h8])] at h9
   rw [h9]
   simp [bcells]
  unfold Blk'
  rw [h5, hc]
def OfL (e : List Bool) (f : List (List Bool)) (l : List Sym) (m : Nat) (w : World) (b0 : Nat) (i : Value) (wr : World) : Prop :=
 ∃ (k : Nat) (out : List Bool), k ≤ l.length ∧ i = .int .i64 k ∧ out.length = m ∧ ofFrom e f (List.replicate m false) l = ofFrom e f out (l.drop k) ∧ Below w.heap.size w wr ∧ Blk' wr b0 4 (bcells out)
set_option maxRecDepth 100000 in
set_option maxHeartbeats 4000000 in
theorem setsOf_any (p be bf : Nat) (bs : List Nat) (m n : Nat) (gt gn gs : Int) (sl : Value) (cf : Nat) (e : List Bool) (f : List (List Bool)) (l : List Sym) (A : Option Addr) (c : Nat) (S : Nat → Prop) (w : World)
  (hM : SetsM w p be bf bs m n gt gn gs sl cf e f) (hgt : gt = (m : Int)) (hm : m ≤ 1000000) (hn : n ≤ 1000000) (hll : l.length ≤ c) (hc : c ≤ 9223372036854775807) (hA : Els w S l A) (hS : ∀ b, S b → b < w.heap.size) (hin : ∀ x ∈ l, 0 ≤ x.n ∧ if x.term then x.n < (m : Int) else x.n < (n : Int)) :
  Calls Tryd.prog 106 #[.pointer (some ⟨p, 0, none⟩), .slice A l.length c] w fun en w' => ∃ b, en = .returned (.tuple #[rowSl b m, .bool (ofFrom e f (List.replicate m false) l).2]) ∧ w.heap.size ≤ b ∧ Blk' w' b 4 (bcells (ofFrom e f (List.replicate m false) l).1) ∧ Below w.heap.size w w' := by
 subst hgt
 have HM := Lib.hid hM
 have HA := Lib.hid hA
 have HS := Lib.hid hS
 have HIn := Lib.hid hin
 have Hmn := Lib.hid (And.intro hm hn)
 have hm2 : m ≤ 140737488355328 := by omega
 have p0 : w.cell? ⟨p, 0, none⟩ = some (.int .i64 (m : Int)) := hM.ptr.cell 0
 have hlm : l.length ≤ 9223372036854775807 := by omega
 obtain ⟨i0, hi, hz0, hz1, hz2⟩ := info_parts infoBool1
 clear hM hA hS hin hm hn
 go_enter Tryd.func106, Tryd.ntmps106
 go_wp2_with (at_make; refine wpList_make_full _ rfl _ _ 53 rfl w.heap.size 4 i0 (.bool false) 1 Tryd.underlying53 hi hz0 hz1 _ _ _ _ m rfl rfl rfl rfl (by rw [hz2]; omega) (by unfold maxLen; omega) (Nat.le_refl _) ?_; intro w1 hr1 hg1; have H1 := Lib.hid (And.intro (blk_of_made hr1) hg1); clear hr1 hg1)
 have HB1 : Hid (Below w.heap.size w w1) := Lib.hid ⟨H1.out.2.os, H1.out.2.tape, H1.out.2.output, H1.out.2.size, fun k hk => H1.out.2.block k hk (by simp)⟩
 clear p0
 go_loopw [17] (fun i wr => OfL e f l m w w.heap.size i wr) (fun i _ => l.length - (intOf i).toNat)
 case atStart => exact ⟨0, _, Nat.zero_le _, rfl, by simp, rfl, HB1.out, H1.out.1⟩
 case round =>
  obtain ⟨wo, hwo⟩ : ∃ wo : World, wo = wr := ⟨_, rfl⟩
  subst hwo
  obtain ⟨k, out, hk, rfl, hol, he, hb, hbk⟩ := hrel
  have HB := Lib.hid hb
  have HE := Lib.hid he
  have HO := Lib.hid hbk
  have HOl := Lib.hid hol
  have HMo := Lib.hid (HM.out.below hb)
  have hz := hbk.lt
  clear he hb hbk hol HB1 H1
  by_cases hlt : k < l.length
  ·obtain ⟨x, hx⟩ := get_some hlt
   obtain ⟨b, o, rfl, hSb, hbs, hi64, hc0, hc1⟩ := (HA.out.belowB HB.out HS.out).sym hx
   have Hd := Lib.hid (drop_cons hx)
   have hxi := HIn.out x (List.mem_of_getElem? hx)
   obtain ⟨xt, xn⟩ := x
   dsimp only at *
   have hx0 : 0 ≤ xn := hxi.1
   have hk0 : (0 : Int) ≤ (k : Int) := by omega
   clear hx
   cases xt
   ·have hxn : xn < (n : Int) := by simpa using hxi.2
    have hxnn : xn.toNat < n := by omega
    clear hxi
    obtain ⟨bi, hbi⟩ := get_some (show xn.toNat < bs.length by have := HM.out.blen; omega)
    obtain ⟨row, hrow⟩ := get_some (show xn.toNat < f.length by have := HM.out.flen; omega)
    obtain ⟨ev, hev⟩ := get_some (show xn.toNat < e.length by have := HM.out.elen; omega)
    have hR := HMo.out.rows _ _ _ hbi hrow
    have hRl := (HM.out.rows _ _ _ hbi hrow).1.lt
    have hpl := HM.out.ptr.lt
    have hel := HM.out.empty.lt
    have hfl := HM.out.bflt
    have HRow := Lib.hid (And.intro hrow (And.intro hev hR.2))
    have p5 : wo.cell? ⟨p, 5, none⟩ = some (.slice (some ⟨bf, 0, none⟩) n cf) := HMo.out.ptr.cell 5
    have p4 : wo.cell? ⟨p, 4, none⟩ = some (rowSl be n) := HMo.out.ptr.cell 4
    have f0 : wo.cell? ⟨bf, xn.toNat, none⟩ = some (rowSl bi m) := HMo.out.outer _ _ hbi
    have e0 : wo.cell? ⟨be, xn.toNat, none⟩ = some (.bool ev) := (HMo.out.empty.cell _).trans (bcells_get hev)
    unfold rowSl at p4 f0
    have hbo : Below wo.heap.size wo (wo.alloc (.cells #[.bool false, .int .i64 xn] 40)) := (Below.refl _ _).alloc (Nat.le_refl _) _
    have HEr := Lib.hid (els_of_blk (S := fun b => b = bi) (xs := row) (row.map fun x => [Value.bool x]) ((hR.1.below hbo hR.1.lt).drew) (bcells_flat row) (by simp) (by intro i x cs hi hc; simp [hi] at hc; subst hc; rfl) rfl)
    have HOd := Lib.hid ((HO.out.below hbo hz).drew)
    have hzl : w.heap.size < wo.heap.size := hz
    have hpo : p < wo.heap.size := by omega
    have hfo : bf < wo.heap.size := by omega
    have heo : be < wo.heap.size := by omega
    have hbio : bi < wo.heap.size := by omega
    have HNe : Hid (∀ b ∈ p :: be :: bf :: bs, ¬ b = w.heap.size) := Lib.hid (fun b hb h => by have := HM.out.lt b hb; omega)
    have HBi := Lib.hid (And.intro hbi (Blk'.new wo 40 #[.bool false, .int .i64 xn]))
    have E1 := Lib.hid (show ofFrom e f (List.replicate m false) l = if ev then ofFrom e f (orRow out row) (l.drop (k + 1)) else (orRow out row, false) by
     rw [HE.out, Hd.out, ofFrom]
     simp only [List.getD_eq_getElem?_getD, hrow, hev, Option.getD_some, Bool.false_eq_true, if_false])
    clear hrow hev hR hbi hbo Hd
    go_wp2_with fail
    go_region_held3 (fun w' => w'.cell? ⟨p, 5, none⟩ = some (.slice (some ⟨bf, 0, none⟩) n cf) ∧ w'.cell? ⟨bf, xn.toNat, none⟩ = some (.slice (some ⟨bi, 0, none⟩) m m) ∧ w'.cell? ⟨wo.heap.size, 1, none⟩ = some (.int .i64 xn)) (go_keep)
     (first
     | (go_at_call 139; refine (union_any out row w.heap.size m (some ⟨bi, 0, none⟩) m m m (fun b => b = bi) _ (by exact HOl.out.symm) (by exact HRow.out.2.2.symm) (by rw [HOl.out, HRow.out.2.2]; exact Nat.le_refl _) (by have := HRow.out.2.2; have := Hmn.out.1; omega) HOd.out HEr.out (by omega)).mono ?_; rintro en w2 ⟨rfl, hg2, hb2⟩; have hk2 : Kept (fun b => b = w.heap.size) wo w2 := (((Kept.refl _ wo).alloc _).drew).grown hg2 (fun k hk => by injection hk with hk; exact .inl hk.symm); have hM2 := HMo.out.kept hk2 HNe.out; have q5 : w2.cell? ⟨p, 5, none⟩ = some (.slice (some ⟨bf, 0, none⟩) n cf) := hM2.ptr.cell 5; have q4 : w2.cell? ⟨p, 4, none⟩ = some (.slice (some ⟨be, 0, none⟩) n n) := hM2.ptr.cell 4; have g0 : w2.cell? ⟨bf, xn.toNat, none⟩ = some (.slice (some ⟨bi, 0, none⟩) m m) := hM2.outer _ _ HBi.out.1; have x1 : w2.cell? ⟨wo.heap.size, 1, none⟩ = some (.int .i64 xn) := ((HBi.out.2.drew).grown hg2 (by simp; omega)).cell 1; have y0 : w2.cell? ⟨be, xn.toNat, none⟩ = some (.bool ev) := (hM2.empty.cell _).trans (bcells_get HRow.out.2.1); have H2 := Lib.hid (And.intro hb2 (hk2.to_below (B := w.heap.size) (fun b hb => by omega) (by omega))); clear hg2 hb2 hk2 hM2))
    have hl2 := HOl.out
    have hlo : (orRow out row).length = m := by rw [orRow_len]; exact hl2
    have HLo := Lib.hid hlo
    clear hl2 hlo p4 p5 f0 e0
    go_wp2_with fail
    go_quiet (fail)
    cases ev
    ·go_wp2
     go_ret2
     exact ⟨w.heap.size, by rw [E1.out]; rfl, Nat.le_refl _, by rw [E1.out]; exact H2.out.1, bdrewN (HB.out.trans H2.out.2)⟩
    ·go_wp2
     go_roundw
     case rel => exact ⟨k + 1, _, hlt, by go_num, HLo.out, by rw [E1.out]; rfl, bdrewN (HB.out.trans H2.out.2), H2.out.1.drewN _⟩
     case measure => simp [intOf]; omega
   ·have hxn : xn < (m : Int) := by simpa using hxi.2
    have hxnn : xn.toNat < m := by omega
    clear hxi
    have E1 := Lib.hid (show ofFrom e f (List.replicate m false) l = (out.set xn.toNat true, false) by rw [HE.out, Hd.out, ofFrom]; simp)
    obtain ⟨ov, hov⟩ := get_some (show xn.toNat < out.length by have := HOl.out; omega)
    have o0 : wo.cell? ⟨w.heap.size, xn.toNat, none⟩ = some (.bool ov) := (HO.out.cell _).trans (bcells_get hov)
    have of0 := HO.out.frozen xn.toNat
    have HZ := Lib.hid ((HO.out.set_ xn.toNat (.bool true)).alloc (.cells #[.bool true, .int .i64 xn] 40))
    have HBz := Lib.hid ((HB.out.setCell (p := ⟨w.heap.size, xn.toNat, none⟩) (Nat.le_refl _) (.bool true)).alloc (by simp [World.setCell]; omega) (.cells #[.bool true, .int .i64 xn] 40))
    clear hov
    go_wp2
    go_ret2
    exact ⟨w.heap.size, by rw [E1.out]; rfl, Nat.le_refl _, by rw [E1.out]; have h := HZ.out; rw [bcells_set] at h; exact h, HBz.out⟩
  ·have E1 := Lib.hid (show ofFrom e f (List.replicate m false) l = (out, true) by rw [HE.out, List.drop_of_length_le (by omega)]; rfl)
   go_wp2
   go_ret2
   exact ⟨w.heap.size, by rw [E1.out]; rfl, Nat.le_refl _, by rw [E1.out]; exact HO.out, HB.out⟩
end Go.Proofs.YtjdojogjogenkaaDoor
/- Contracts: slices.Grow of nil and slices.Concat, at symbols. -/
namespace Go.Proofs.YtjdojogjogenkaaDoor
open Go.RowKit
set_option linter.unusedVariables false
def RoomSym (w0 : World) (n : Nat) (e : Ending) (w' : World) : Prop :=
 ∃ v, e = .returned v ∧ (∀ S, Own w' S w0.heap.size 40 v ([] : List Sym)) ∧ Below w0.heap.size w0 w'
set_option maxRecDepth 100000 in
theorem growSym_any (n : Nat) (w : World) (hn : n * 16 ≤ 140737488355328) :
  Calls Tryd.prog 140 #[.slice none 0 0, .int .i64 n] w (RoomSym w n) := by
 by_cases h0 : n = 0
 ·subst h0
  go_enter Tryd.func140, Tryd.ntmps140
  go_wp2
  go_ret
  exact ⟨_, rfl, fun S => Own.nil _ _ _ _, Below.refl _ _⟩
 ·have hp : (0 : Int) < (n : Int) := by omega
  obtain ⟨w', g, cap, hr, hg, hc1, hc2, hown, hb, hsz⟩ := run_room (ty := 58) (w := w) (k := .i64) elemSym Tryd.underlying3 n (by omega) (by omega) (by omega)
  subst hg
  have Hr := Lib.hid hr
  clear hr
  have hc3 : (0 : Int) ≤ (cap : Int) := by omega
  go_enter Tryd.func140, Tryd.ntmps140
  go_wp2_with (at_builtin; refine Lib.wpList_append_run _ rfl _ _ _ _ rfl _ _ rfl rfl _ _ Hr.out ?_)
  go_ret
  exact ⟨_, rfl, hown, hb⟩
set_option maxRecDepth 100000 in
set_option maxHeartbeats 400000 in
theorem concatSym_any (A : Option Addr) (c : Nat) (xss : List (List Sym)) (S : Nat → Prop) (w : World) (hl : xss.length ≤ 9223372036854775807) (hA : Els w S xss A) (hS : ∀ b, S b → b < w.heap.size) (htot0 : xss.flatten.length * 16 ≤ 140737488355328) :
  Calls Tryd.prog 107 #[.slice A xss.length c] w (RetOwn w S 40 xss.flatten) := by
 go_enter Tryd.func107, Tryd.ntmps107
 have HTot := Lib.hid htot0
 have htot := htot0
 clear htot0
 go_wp2
 go_loop [3, 11] (fun n i => ∃ k : Nat, k ≤ xss.length ∧ i = .int .i64 k ∧ n = .int .i64 ((xss.take k).flatten.length : Nat)) (fun _ i => xss.length - (intOf i).toNat)
 case atStart => exact ⟨0, Nat.zero_le _, rfl, rfl⟩
 case round =>
  obtain ⟨k, hk, rfl, rfl⟩ := hrel
  by_cases hlt : k < xss.length
  ·obtain ⟨x, hx⟩ := get_some hlt
   obtain ⟨b, o, A', c', rfl, _, hbs, hxc, hcm, _, hcell⟩ := hA.list hx
   have hts := flat_take_snoc hx
   have hle := flat_take_le xss (k + 1)
   have hlen : (xss.take (k + 1)).flatten.length = (xss.take k).flatten.length + x.length := by rw [hts, List.length_append]
   rw [hlen] at hle
   have HL := Lib.hid hlen
   clear hts hlen hx
   generalize (xss.take k).flatten.length = m at *
   have hnn : ¬ ((m : Int) + (x.length : Int) < 0) := by omega
   go_wp2
   go_round
   case rel => exact ⟨k + 1, by omega, by go_num, by rw [HL.out]; go_num⟩
   case measure => simp [intOf]; omega
  ·have hkx : k = xss.length := by omega
   subst hkx
   rw [List.take_length]
   have Hm := Lib.hid htot
   generalize xss.flatten.length = m at Hm ⊢
   clear htot
   go_wp2_with fail
   refine (growSym_any _ w Hm.out).mono ?_
   rintro e w1 ⟨v1, rfl, hown, hb1⟩
   have HO := Lib.hid (hown S)
   have HB := Lib.hid hb1
   clear hown hb1
   go_wp2
   go_loopw [6, 27] (fun v i wr => ∃ k : Nat, k ≤ xss.length ∧ i = .int .i64 k ∧ Own wr S w.heap.size 40 v (xss.take k).flatten ∧ Below w.heap.size w wr) (fun _ i _ => xss.length - (intOf i).toNat)
   case atStart => exact ⟨0, Nat.zero_le _, rfl, HO.out, HB.out⟩
   case round =>
    obtain ⟨k, hk, rfl, hown, hb⟩ := hrel
    have HO := Lib.hid hown
    have HB := Lib.hid hb
    clear hown hb
    by_cases hlt : k < xss.length
    ·obtain ⟨x, hx⟩ := get_some hlt
     obtain ⟨b, o, A', c', rfl, _, hbs, hxc, hcm, hA', hcell⟩ := (hA.below HB.out).list hx
     have HA' := Lib.hid (hA'.own HO.out hS HB.out.size)
     have hts := flat_take_snoc hx
     have hle := flat_take_le xss (k + 1)
     rw [hts, List.length_append] at hle
     have htot := HTot.out
     have HT := Lib.hid hts
     clear hts hx hA'
     go_wp2_with (at_builtin; refine wpList_ownMany _ rfl _ _ elemSym rfl rfl HO.out x rfl rfl HA'.out (by omega) (by omega) HB.out.size ?_; intro v' w' hown' hg' _)
     have HO' := Lib.hid hown'
     have HG := Lib.hid hg'
     clear hown' hg'
     go_wp2
     go_roundw
     case rel => exact ⟨k + 1, by omega, by go_num, by rw [HT.out]; exact HO'.out, bgrown HB.out HG.out HO.out (Nat.le_refl _) HB.out.size⟩
     case measure => simp [intOf]; omega
    ·have hkx : k = xss.length := by omega
     subst hkx
     go_wp2
     go_ret
     exact ⟨_, rfl, by have h := HO.out; rwa [List.take_length] at h, HB.out⟩
end Go.Proofs.YtjdojogjogenkaaDoor
/- Contracts: slices.Index and slices.Contains at int. -/
namespace Go.Proofs.YtjdojogjogenkaaDoor
open Go.RowKit
set_option linter.unusedVariables false
set_option maxRecDepth 100000 in
theorem indexInt_any (A : Option Addr) (c : Nat) (xs : List Int) (z : Int) (S : Nat → Prop) (w : World) (hm : xs.length ≤ 9223372036854775807) (hA : Els w S xs A) :
  Calls Tryd.prog 45 #[.slice A xs.length c, .int .i64 z] w fun e w' => e = .returned (.int .i64 (idxI (fun x => z == x) xs)) ∧ w = w' := by
 go_enter Tryd.func45, Tryd.ntmps45
 go_wp2
 go_loop [8] (fun i => ∃ k : Nat, k ≤ xs.length ∧ i = .int .i64 k ∧ (∀ y ∈ xs.take k, (z == y) = false)) (fun i => xs.length - (intOf i).toNat)
 case atStart => exact ⟨0, Nat.zero_le _, rfl, by simp⟩
 case round =>
  obtain ⟨k, hk, rfl, hno⟩ := hrel
  have HN := Lib.hid hno
  clear hno
  by_cases hlt : k < xs.length
  ·obtain ⟨x, hx⟩ := get_some hlt
   obtain ⟨b, o, rfl, _, hbs, hi, hc0⟩ := hA.int hx
   have HX := Lib.hid hx
   clear hx
   have hk0 : (0 : Int) ≤ (k : Int) := by omega
   have hk1 : (k : Int) < (xs.length : Int) := by omega
   cases hp : (z == x)
   ·go_wp2
    go_round
    case rel => exact ⟨k + 1, by omega, by go_num, by
     rw [take_snoc HX.out]
     intro y hy
     rcases List.mem_append.1 hy with h | h
     ·exact HN.out y h
     ·simp at h; subst h; exact hp⟩
    case measure => simp [intOf]; omega
   ·have E0 := Lib.hid (idxI_hit (p := fun x => z == x) HX.out hp HN.out)
    go_wp2
    go_ret
    exact ⟨ret_int E0.out.symm, rfl⟩
  ·have E0 := Lib.hid (show idxI (fun x => z == x) xs = -1 from idxI_none (by have h := HN.out; rwa [List.take_of_length_le (by omega)] at h))
   go_wp2
   go_ret
   exact ⟨ret_int E0.out.symm, rfl⟩
theorem any_eq_mem (xs : List Int) (z : Int) : xs.any (fun x => z == x) = decide (z ∈ xs) := by
 rw [Bool.eq_iff_iff]; simp [List.any_eq_true]
theorem containsInt_any (A : Option Addr) (n c : Nat) (xs : List Int) (z : Int) (S : Nat → Prop) (w : World) (hn : n = xs.length) (hm : xs.length ≤ 9223372036854775807) (hA : Els w S xs A) :
  Calls Tryd.prog 89 #[.slice A n c, .int .i64 z] w fun e w' => e = .returned (.bool (decide (z ∈ xs))) ∧ w = w' := by
 subst hn
 have HA := Lib.hid hA
 clear hA
 go_enter Tryd.func89, Tryd.ntmps89
 go_wp2_with fail
 refine (indexInt_any A c xs z S _ hm HA.out).mono ?_
 rintro e w1 ⟨rfl, rfl⟩
 go_wp2
 go_ret
 exact ⟨ret_bool ((idxI_nonneg _ _).trans (any_eq_mem xs z)), rfl⟩
end Go.Proofs.YtjdojogjogenkaaDoor
/- Plain: what a count of trees says; the words of trees. No program is named here. -/
namespace Go.Proofs.YtjdojogjogenkaaDoor
set_option linter.unusedVariables false
theorem cnt_pos {P : Tree → Prop} {k : Int} (h : CntIs P k) {t : Tree} (ht : P t) : k ≠ 0 := by
 rcases h with ⟨rfl, _⟩ | ⟨L, _, hL, rfl⟩
 ·omega
 ·have := List.length_pos_of_mem ((hL t).2 ht)
  omega
theorem cnt_zero {P : Tree → Prop} {k : Int} (h : CntIs P k) (hn : ∀ t, ¬ P t) : k = 0 := by
 rcases h with ⟨rfl, h⟩ | ⟨L, _, hL, rfl⟩
 ·obtain ⟨t, ht, _⟩ := h 0
  exact absurd ht (hn t)
 ·cases L with
  | nil => rfl
  | cons x L => exact absurd ((hL x).1 (by simp)) (hn x)
theorem cnt_one {P : Tree → Prop} {k : Int} (h : CntIs P k) (hu : ∀ t u, P t → P u → t = u) : k = 0 ∨ k = 1 := by
 rcases h with ⟨rfl, h⟩ | ⟨L, hn, hL, rfl⟩
 ·obtain ⟨t, ht, _⟩ := h 0
  obtain ⟨u, hu1, hu2⟩ := h (nodesT t + 1)
  have := hu t u ht hu1
  subst this
  omega
 ·have h1 : L.length ≤ 1 := by
   match L, hn, hL with
   | [], _, _ => simp
   | [x], _, _ => simp
   | x :: y :: L, hn, hL =>
    have e := hu x y ((hL x).1 (by simp)) ((hL y).1 (by simp))
    subst e
    simp at hn
  omega
theorem cnt_fin {P : Tree → Prop} {k : Int} (h : CntIs P k) {L : List Tree} (hL : ∀ t, P t → t ∈ L) : k ≠ -1 := by
 rcases h with ⟨rfl, h⟩ | ⟨M, _, _, rfl⟩
 ·exfalso
  obtain ⟨N, hN⟩ := nodes_bound L
  obtain ⟨t, h1, h2⟩ := h N
  have := hN t (hL t h1)
  omega
 ·omega
mutual
theorem yield_rg {g : Gram} (hs : ∀ q ∈ g.rules, ∀ s ∈ q.right, s.term = true → 0 ≤ s.n ∧ s.n < g.terms) : ∀ (t : Tree) (s : Sym), vt g t s → (s.term = true → 0 ≤ s.n ∧ s.n < g.terms) → ∀ x ∈ yieldT t, 0 ≤ x ∧ x < g.terms
 | ⟨r, tt, ks⟩, s, h, h0, x, hx => by
  unfold vt at h
  split at h
  ·rename_i ht
   obtain ⟨rfl, rfl, rfl⟩ := h
   unfold yieldT at hx
   rw [if_pos (by omega)] at hx
   simp at hx
   subst hx
   exact h0 ht
  ·obtain ⟨_, hr, q, hq, _, hks⟩ := h
   unfold yieldT at hx
   rw [if_neg (by omega)] at hx
   exact yields_rg hs ks q.right hks (fun s hsm => hs q (List.mem_of_getElem? hq) s hsm) x hx
theorem yields_rg {g : Gram} (hs : ∀ q ∈ g.rules, ∀ s ∈ q.right, s.term = true → 0 ≤ s.n ∧ s.n < g.terms) : ∀ (ks : List Tree) (ss : List Sym), vts g ks ss → (∀ s ∈ ss, s.term = true → 0 ≤ s.n ∧ s.n < g.terms) → ∀ x ∈ yields ks, 0 ≤ x ∧ x < g.terms
 | [], _, _, _, x, hx => by simp [yields] at hx
 | k :: ks, [], h, _, x, hx => by unfold vts at h; exact h.elim
 | k :: ks, s :: ss, h, h0, x, hx => by
  unfold vts at h
  unfold yields at hx
  rcases List.mem_append.1 hx with hx | hx
  ·exact yield_rg hs k s h.1 (h0 s (by simp)) x hx
  ·exact yields_rg hs ks ss h.2 (fun s hsm => h0 s (by simp [hsm])) x hx
end
theorem terms_of {g : Gram} (hv : ValidG g) : ∀ q ∈ g.rules, ∀ s ∈ q.right, s.term = true → 0 ≤ s.n ∧ s.n < g.terms := fun q hq s hs ht => by
 have h := (hv.rules q hq).2.2.2 s hs
 rw [if_pos ht] at h
 exact h
theorem word_rg {g : Gram} (hv : ValidG g) {t : Tree} {n : Int} (h : vt g t ⟨false, n⟩) {most : Int} (hl : ((yieldT t).length : Int) ≤ most) : wordE g.terms (yieldT t) most = 0 := by
 have hr := yield_rg (terms_of hv) t ⟨false, n⟩ h (fun e => by simp at e)
 unfold wordE
 rw [if_neg (by omega), if_neg]
 intro ha
 obtain ⟨x, hx, he⟩ := List.any_eq_true.1 ha
 have := hr x hx
 simp [wordBad] at he
 omega
theorem word_rg2 {tm : Int} {ws : List Int} {most : Int} (hl : (ws.length : Int) ≤ most) (hw : ∀ x ∈ ws, 0 ≤ x ∧ x < tm) : wordE tm ws most = 0 := by
 unfold wordE
 rw [if_neg (by omega), if_neg]
 intro ha
 obtain ⟨x, hx, he⟩ := List.any_eq_true.1 ha
 have := hw x hx
 simp [wordBad] at he
 omega
end Go.Proofs.YtjdojogjogenkaaDoor
/- Rows of ints that are known whole; contract: slices.Repeat of a row of one int. -/
namespace Go.Proofs.YtjdojogjogenkaaDoor
open Go.RowKit
set_option linter.unusedVariables false
set_option maxRecDepth 100000 in
set_option maxHeartbeats 1000000 in
theorem mul64_one (n : Nat) (hn : n ≤ 10) (w : World) : Calls Tryd.prog 146 #[.int .u64 1, .int .u64 (n : Int)] w fun e w' => e = .returned (.tuple #[.int .u64 0, .int .u64 (n : Int)]) ∧ w = w' := by
 have h : n = 0 ∨ n = 1 ∨ n = 2 ∨ n = 3 ∨ n = 4 ∨ n = 5 ∨ n = 6 ∨ n = 7 ∨ n = 8 ∨ n = 9 ∨ n = 10 := by omega
 rcases h with rfl | rfl | rfl | rfl | rfl | rfl | rfl | rfl | rfl | rfl | rfl
 all_goals
  go_enter Tryd.func146, Tryd.ntmps146
  go_wp2
  go_ret2
  exact ⟨rfl, rfl⟩
set_option maxRecDepth 100000 in
set_option maxHeartbeats 1000000 in
theorem mul_one (n : Nat) (hn : n ≤ 10) (w : World) : Calls Tryd.prog 117 #[.int .u64 1, .int .u64 (n : Int)] w fun e w' => e = .returned (.tuple #[.int .u64 0, .int .u64 (n : Int)]) ∧ w = w' := by
 go_enter Tryd.func117, Tryd.ntmps117
 go_wp2_with fail
 refine (mul64_one n hn _).mono ?_
 rintro e w' ⟨rfl, rfl⟩
 go_wp2
 go_ret2
 exact ⟨rfl, rfl⟩
def rl (n k : Nat) : List Int := List.replicate k (-1) ++ List.replicate (n - k) 0
def ivals (l : List Int) : List Value := l.map fun x => Value.int .i64 x
theorem icells_vals (l : List Int) : icells l = (ivals l).toArray := rfl
theorem rl_splice (n k m : Nat) (h : k + m ≤ n) : splice (ivals (rl n k)) k (ivals (List.replicate m (-1))) = ivals (rl n (k + m)) := by
 unfold splice rl ivals
 simp only [List.map_append, List.map_replicate, List.length_replicate]
 rw [List.take_append_of_le_length (by simp), List.take_of_length_le (by simp), List.drop_append, List.drop_of_length_le (by simp)]
 simp only [List.length_replicate, List.nil_append, List.drop_replicate]
 rw [show n - k - (k + m - k) = n - (k + m) from by omega, ← List.append_assoc, List.replicate_append_replicate]
theorem rl_full (n : Nat) : rl n n = List.replicate n (-1) := by simp [rl]
theorem rl_zero (n : Nat) : rl n 0 = List.replicate n 0 := by simp [rl]
def RepL (n g : Nat) (w : World) (i : Value) (wr : World) : Prop :=
 ∃ k : Nat, 1 ≤ k ∧ k ≤ n ∧ i = .int .i64 k ∧ Blk' wr g 3 (icells (rl n k)) ∧ Below w.heap.size w wr
set_option maxRecDepth 100000 in
set_option maxHeartbeats 1000000 in
theorem repeat_any (b o n : Nat) (w : World) (h1 : 1 ≤ n) (hn : n ≤ 10) (hc : w.cell? ⟨b, o, none⟩ = some (.int .i64 (-1))) :
  Calls Tryd.prog 72 #[.slice (some ⟨b, o, none⟩) 1 1, .int .i64 (n : Int)] w fun e w' =>
   ∃ g, e = .returned (.slice (some ⟨g, 0, none⟩) n n) ∧ Blk' w' g 3 (icells (List.replicate n (-1))) ∧ w.heap.size ≤ g ∧ Below w.heap.size w w' := by
 have hmk := mkInts n (by omega)
 have hn0 : (0 : Int) ≤ (n : Int) := by omega
 have hn1 : (n : Int) ≤ 10 := by omega
 have hbl : b < w.heap.size := World.block_lt_of_cell? w _ hc
 go_enter Tryd.func72, Tryd.ntmps72
 go_wp2_with fail
 refine (mul_one n hn _).mono ?_
 rintro e w' ⟨rfl, rfl⟩
 have hub := Tryd.underlying33
 have hsz : (Tryd.prog.info? 3).map (·.size) = some 1 := by kernel_rfl
 have HN := Lib.hid (Blk'.new w 3 (icells (List.replicate n 0)))
 have HS := Lib.hid (And.intro hub hsz)
 have HC := Lib.hid hc
 have HSp := Lib.hid (rl_splice n)
 clear hub hsz
 have HC2 : Hid (∀ (j : Nat) (v : Value), [Value.int .i64 (-1)][j]? = some v → (w.alloc (.cells (icells (List.replicate n 0)) 3)).cell? ((⟨b, o, none⟩ : Addr).add j) = some v) := Lib.hid (by
  intro j v hj
  match j, hj with
  | 0, hj =>
   simp at hj; subst hj
   have h := ((Below.refl w.heap.size w).alloc (Nat.le_refl _) (.cells (icells (List.replicate n 0)) 3)).cell (p := ⟨b, o, none⟩) hbl
   simpa [Addr.add] using h.trans HC.out)
 have HN0 : Hid ((w.alloc (.cells (icells (List.replicate n 0)) 3)).heap[w.heap.size]? = some (.cells (ivals (rl n 0)).toArray 3 (0, 0))) := Lib.hid (by rw [rl_zero]; exact HN.out)
 have HL : Hid ([Value.int .i64 (-1)].length = Nat.min 1 n) := Lib.hid (by show 1 = min 1 n; omega)
 have HF : Hid (0 + [Value.int .i64 (-1)].length ≤ (ivals (rl n 0)).length) := Lib.hid (by simp [ivals, rl]; omega)
 have H1c : Hid (∀ v ∈ [Value.int .i64 (-1)], v.oneCell' = true) := Lib.hid (by intro v hv; simp at hv; subst hv; rfl)
 have HB0 := Lib.hid ((Below.refl w.heap.size w).alloc (Nat.le_refl _) (.cells (icells (List.replicate n 0)) 3))
 go_wp2_with (refine wpList_copy_splice (o := ⟨some 33, _, _, _, _, _⟩) rfl _ _ 33 33 rfl 3 HS.out.1 HS.out.2 _ _ _ _ _ _ rfl rfl w.heap.size 0 (ivals (rl n 0)) 3 HN0.out [.int .i64 (-1)] HL.out (fun _ => ⟨rfl, _, rfl, HC2.out⟩) HF.out H1c.out w.heap.size w HB0.out (Nat.le_refl _) ?_; intro w2 hg2 hb2; have H2 := Lib.hid (And.intro hg2.out hb2); clear hg2 hb2)
 have HZ : Hid (splice (ivals (rl n 0)) 0 [Value.int .i64 (-1)] = ivals (rl n 1)) := Lib.hid (by have h := HSp.out 0 1 h1; simpa [ivals] using h)
 have HR : Hid (RepL n w.heap.size w (.int .i64 ((1 : Nat) : Int)) w2) := Lib.hid ⟨1, Nat.le_refl _, h1, rfl, by have h := H2.out.1; rw [HZ.out] at h; exact h, H2.out.2⟩
 have hc1 : w.cell? ⟨b, o, none⟩ = some (.int .i64 (-1)) := HC.out
 clear hc hc1 HN HN0 HC2 HB0 H2
 go_loopw [8] (fun i wr => RepL n w.heap.size w i wr) (fun i _ => n - (intOf i).toNat)
 case atStart => exact HR.out
 case round =>
  obtain ⟨wo, hwo⟩ : ∃ wo : World, wo = wr := ⟨_, rfl⟩
  subst hwo
  obtain ⟨k, hk1, hk2, rfl, hB, hb⟩ := hrel
  have HBk := Lib.hid hB
  have HBl := Lib.hid hb
  have hz := hb.size
  clear hB hb HR
  by_cases hlt : k < n
  ·have hkn : (k : Int) < (n : Int) := by omega
   have hk0 : (0 : Int) ≤ (k : Int) := by omega
   have hmin : min k (n - k) ≤ k ∧ min k (n - k) ≤ n - k ∧ 1 ≤ min k (n - k) := by omega
   obtain ⟨m, hm⟩ : ∃ m, m = min k (n - k) := ⟨_, rfl⟩
   rw [← hm] at hmin
   obtain ⟨X, hX⟩ : ∃ X, X = ivals (List.replicate m (-1)) := ⟨_, rfl⟩
   have HXl : Hid (X.length = Nat.min k (n - k)) := Lib.hid (by rw [hX]; simp only [ivals, List.length_map, List.length_replicate]; exact hm)
   have HXm : Hid (X.length = m) := Lib.hid (by rw [hX]; simp [ivals])
   have HXs : Hid (∀ (j : Nat) (v : Value), X[j]? = some v → wo.drew.cell? ((⟨w.heap.size, 0, none⟩ : Addr).add j) = some v) := Lib.hid (by
    intro j v hj
    have e : (⟨w.heap.size, 0, none⟩ : Addr).add j = ⟨w.heap.size, j, none⟩ := by unfold Addr.add; split <;> simp_all
    rw [e]
    have hjl : j < m := by have := (List.getElem?_eq_some_iff.1 hj).1; rw [HXm.out] at this; exact this
    have h2 := HBk.out.drew.cell j
    rw [hX] at hj
    simp only [ivals, List.getElem?_map, List.getElem?_replicate, if_pos hjl, Option.map_some] at hj
    rw [h2, ← hj]
    exact icells_get (by simp only [rl]; rw [List.getElem?_append_left (by simp; omega), List.getElem?_replicate, if_pos (by omega)]))
   have HXf : Hid (k + X.length ≤ (ivals (rl n k)).length) := Lib.hid (by rw [HXm.out]; simp [ivals, rl]; omega)
   have HX1 : Hid (∀ v ∈ X, v.oneCell' = true) := Lib.hid (by intro v hv; rw [hX] at hv; simp [ivals] at hv; rw [hv.2]; rfl)
   have HB0 : Hid (wo.drew.heap[w.heap.size]? = some (.cells (ivals (rl n k)).toArray 3 (0, 0))) := Lib.hid HBk.out
   have HBd : Hid (Below w.heap.size w wo.drew) := Lib.hid HBl.out.drew
   have HNx : Hid (splice (ivals (rl n k)) k X = ivals (rl n (k + m))) := Lib.hid (by rw [hX]; exact HSp.out k m (by omega))
   have hsum : IntKind.i64.wrap ((k : Int) + (m : Int)) = (k : Int) + (m : Int) := IntWalk.i64_in _ (by omega)
   obtain ⟨w2, hcp, hg2, hb2⟩ : ∃ w2, (Builtin.copy_ #[33, 33] 3 #[.slice (some ⟨w.heap.size, k, none⟩) (n - k) (n - k), .slice (some ⟨w.heap.size, 0, none⟩) k n]).run Tryd.prog wo.drew = .ok (.int .i64 (m : Int)) w2 ∧ Blk' w2 w.heap.size 3 (icells (rl n (k + m))) ∧ Below w.heap.size w w2 := by
    have hr := run_copy_row (P := Tryd.prog) (w := wo.drew) 33 33 3 3 w.heap.size k (n - k) (n - k) ⟨w.heap.size, 0, none⟩ k n (ivals (rl n k)).toArray 3 X HS.out.1 HS.out.2 HB0.out HXl.out HXs.out (by simpa using HXf.out) HX1.out
    refine ⟨_, by rw [hr, HXm.out]; rfl, ?_, below_setRow HBd.out (Nat.le_refl _) _⟩
    have h2 := setRow_heap wo.drew w.heap.size (ivals (rl n k)).toArray ((ivals (rl n k)).toArray.toList.take k ++ (X ++ (ivals (rl n k)).toArray.toList.drop (k + X.length))).toArray 3 (0, 0) HB0.out
    have h3 := HNx.out
    unfold splice at h3
    unfold Blk'
    rw [icells_vals, ← h3]
    simp only [List.append_assoc, HXm.out] at h2 ⊢
    exact h2
   have H2 := Lib.hid (And.intro hg2 hb2)
   clear hm hX hg2 hb2
   go_wp2_with fail
   go_region
   all_goals
    go_wp2
    go_roundw
    case rel => exact ⟨k + m, by omega, by omega, by go_num, H2.out.1, H2.out.2⟩
    case measure => simp [intOf]; omega
  ·have hkn : k = n := by omega
   subst hkn
   go_wp2
   go_ret
   exact ⟨_, rfl, by have h := HBk.out; rw [rl_full] at h; exact h, Nat.le_refl _, HBl.out⟩
end Go.Proofs.YtjdojogjogenkaaDoor
/- Contract: slices.Clone at symbols, the copy in a block of its own (out of XCopyB). -/
namespace Go.Proofs.YtjdojogjogenkaaDoor
open Go.RowKit
set_option linter.unusedVariables false
set_option maxRecDepth 100000 in
set_option maxHeartbeats 2000000 in
theorem cloneSymO_any (l : List Sym) (A : Option Addr) (c n : Nat) (S : Nat → Prop) (w : World) (hl : n = l.length) (hm : l.length ≤ 1000000) (hA : Els w S l A) (hS : ∀ b, S b → b < w.heap.size) :
  Calls Tryd.prog 76 #[.slice A n c] w fun e w' => ∃ (A' : Option Addr) (c' : Nat), e = .returned (.slice A' l.length c') ∧ n ≤ c' ∧ c' ≤ 9223372036854775807 ∧ Own w' (fun b => b < w.heap.size) w.heap.size 40 (.slice A' l.length c') l ∧ Below w.heap.size w w' := by
 subst hl
 have HA := Lib.hid hA
 have HS := Lib.hid hS
 have q22 : ∀ (w : World) (a : Option Addr) (n c n' c' : Nat), (binOp .eql 58 (.slice a n c) (.slice none n' c')).run Tryd.prog w = .ok (.bool a.isNone) w := fun w a n c n' c' => Lib.run_eql_slice_nil w _ _ a n c n' c' Tryd.underlying58
 clear hA hS
 cases A with
 | none =>
  have hl0 : l = [] := by
   cases l with
   | nil => rfl
   | cons x xs => obtain ⟨_, _, e, _⟩ := HA.out (by simp); simp at e
  subst hl0
  have hb := Lib.hid (Below.refl w.heap.size w)
  go_enter Tryd.func76, Tryd.ntmps76
  go_wp2
  go_ret
  exact ⟨none, 0, rfl, Nat.le_refl _, by omega, Own.nil _ _ _ _, hb.out⟩
 | some a =>
  have HB1 := Lib.hid ((Below.refl w.heap.size w).alloc (Nat.le_refl _) (.cells #[] 40))
  have HO := Lib.hid (Own.made (α := Sym) (w := w) (fun b => b < w.heap.size) (base := w.heap.size) (e := 40) (cur := #[]) (cap := 0) (Nat.le_refl _) (by omega) rfl)
  have HE := Lib.hid ((HA.out.below HB1.out).keep (S' := OwnT (fun b => b < w.heap.size) w.heap.size (.slice (some ⟨w.heap.size, 0, none⟩) 0 0) (w.alloc (.cells #[] 40))) (fun _ _ _ => rfl) (fun b hb => by
   have h1 := HS.out b hb
   exact ⟨.inl h1, by simp [Value.ownBlock]; omega, by simp; omega⟩))
  go_enter Tryd.func76, Tryd.ntmps76
  go_wp2_with (at_builtin; refine wpList_ownMany _ rfl _ _ elemSym rfl rfl HO.out l rfl rfl HE.out (by simp; omega) (by simp; omega) (by simp) ?_; intro v' w' hown' hg' _)
  obtain ⟨A', c', rfl, h1, h2, h3⟩ := hown'.form
  have HF := Lib.hid hown'
  have HBl := Lib.hid (bgrown HB1.out hg' HO.out (Nat.le_refl _) (by simp))
  have HN := Lib.hid (And.intro h1 h2)
  clear hown' hg' h1 h2 h3
  go_wp2
  go_ret
  exact ⟨A', c', by simp, by have := HN.out.1; simpa using this, HN.out.2, by have := HF.out; simpa using this, HBl.out⟩
end Go.Proofs.YtjdojogjogenkaaDoor
/- Contracts: parlkeep2.term, chain. -/
namespace Go.Proofs.YtjdojogjogenkaaDoor
open Go.RowKit
set_option linter.unusedVariables false
def chainG : Gram := ⟨2, 1, 0, [⟨0, [⟨false, 0⟩, ⟨true, 0⟩]⟩, ⟨0, [⟨true, 1⟩]⟩]⟩
theorem chainC : checkI chainG = 0 := by decide +kernel
theorem keepT_any (n : Int) (w : World) : Calls Tryd.prog 54 #[.int .i64 n] w fun e w' => e = .returned (.agg #[.bool true, .int .i64 n]) ∧ w' = w.alloc (.cells #[.bool true, .int .i64 n] 40) := by
 go_enter Tryd.func54, Tryd.ntmps54
 go_wp2
 exact bodyPost_ret (v := .agg #[.bool true, .int .i64 n]) (by simp [results, Tryd.results54, go_sem]) rfl ⟨rfl, rfl⟩
def RetChain (w : World) (e : Ending) (w' : World) : Prop :=
 ∃ A, e = .returned (.agg #[.int .i64 2, .int .i64 1, .int .i64 0, .slice A 2 2]) ∧ Els w' (fun b => w.heap.size ≤ b ∧ b < w'.heap.size) chainG.rules A ∧ Below w.heap.size w w'
set_option maxRecDepth 100000 in
set_option maxHeartbeats 4000000 in
theorem chain_any (w : World) : Calls Tryd.prog 70 #[] w (RetChain w) := by
 go_enter Tryd.func70, Tryd.ntmps70
 go_wp2_with fail
 refine (keepT_any 0 _).mono ?_
 rintro e w1 ⟨rfl, rfl⟩
 go_wp2_with fail
 refine (keepT_any 1 _).mono ?_
 rintro e w1 ⟨rfl, rfl⟩
 go_wp2_with fail
 refine bodyPost_ret (v := .agg #[.int .i64 2, .int .i64 1, .int .i64 0, .slice (some ⟨w.heap.size + 1 + 1 + 1 + 1 + 1, 0, none⟩) 2 2]) (by simp [results, Tryd.results70, go_sem]) rfl ⟨_, rfl, ?_, ?_⟩
 ·have i0 : I64 0 := ⟨by omega, by omega⟩
  have i1 : I64 1 := ⟨by omega, by omega⟩
  have b1 := (((Blk'.new' (g := w.heap.size + 1 + 1) ((w.alloc (.cells #[.int .i64 2, .int .i64 1, .int .i64 0, .slice (some ⟨w.heap.size + 1 + 1 + 1 + 1 + 1, 0, none⟩) 2 2] 24)).alloc (.cells #[.bool true, .int .i64 0] 40)) 40 #[.bool false, .int .i64 0, .bool true, .int .i64 0] (by simp)).alloc (.cells #[.bool true, .int .i64 1] 40)).alloc (.cells #[.bool true, .int .i64 1] 40)).alloc (.cells #[.int .i64 0, .slice (some ⟨w.heap.size + 1 + 1, 0, none⟩) 2 2, .int .i64 0, .slice (some ⟨w.heap.size + 1 + 1 + 1 + 1, 0, none⟩) 1 1] 60)
  have b2 := (Blk'.new' (g := w.heap.size + 1 + 1 + 1 + 1) ((((w.alloc (.cells #[.int .i64 2, .int .i64 1, .int .i64 0, .slice (some ⟨w.heap.size + 1 + 1 + 1 + 1 + 1, 0, none⟩) 2 2] 24)).alloc (.cells #[.bool true, .int .i64 0] 40)).alloc (.cells #[.bool false, .int .i64 0, .bool true, .int .i64 0] 40)).alloc (.cells #[.bool true, .int .i64 1] 40)) 40 #[.bool true, .int .i64 1] (by simp)).alloc (.cells #[.int .i64 0, .slice (some ⟨w.heap.size + 1 + 1, 0, none⟩) 2 2, .int .i64 0, .slice (some ⟨w.heap.size + 1 + 1 + 1 + 1, 0, none⟩) 1 1] 60)
  have b3 := Blk'.new' (g := w.heap.size + 1 + 1 + 1 + 1 + 1) (((((w.alloc (.cells #[.int .i64 2, .int .i64 1, .int .i64 0, .slice (some ⟨w.heap.size + 1 + 1 + 1 + 1 + 1, 0, none⟩) 2 2] 24)).alloc (.cells #[.bool true, .int .i64 0] 40)).alloc (.cells #[.bool false, .int .i64 0, .bool true, .int .i64 0] 40)).alloc (.cells #[.bool true, .int .i64 1] 40)).alloc (.cells #[.bool true, .int .i64 1] 40)) 60 #[.int .i64 0, .slice (some ⟨w.heap.size + 1 + 1, 0, none⟩) 2 2, .int .i64 0, .slice (some ⟨w.heap.size + 1 + 1 + 1 + 1, 0, none⟩) 1 1] (by simp)
  refine els_of_blk [[.int .i64 0, .slice (some ⟨w.heap.size + 1 + 1, 0, none⟩) 2 2], [.int .i64 0, .slice (some ⟨w.heap.size + 1 + 1 + 1 + 1, 0, none⟩) 1 1]] b3 rfl rfl (rd_two ⟨_, rfl, i0, Vl.of_slice rfl (by simp) (by omega) ?_⟩ ⟨_, rfl, i0, Vl.of_slice rfl (by simp) (by omega) ?_⟩) (by simp; omega)
  ·exact els_of_blk [[.bool false, .int .i64 0], [.bool true, .int .i64 0]] b1 rfl rfl (rd_two ⟨rfl, i0⟩ ⟨rfl, i0⟩) (by simp; omega)
  ·exact els_of_blk [[.bool true, .int .i64 1]] b2 rfl rfl (rd_one ⟨rfl, i1⟩) (by simp; omega)
 ·exact ((((((Below.refl _ _).alloc (Nat.le_refl _) _).alloc (by simp) _).alloc (by simp; omega) _).alloc (by simp; omega) _).alloc (by simp; omega) _).alloc (by simp; omega) _
end Go.Proofs.YtjdojogjogenkaaDoor
/- Contracts: parlmake's Below and the stream's next. -/
namespace Go.Proofs.YtjdojogjogenkaaDoor
open Go.RowKit
set_option linter.unusedVariables false
def RetBelow (n : Int) (w : World) (e : Ending) (w' : World) : Prop := ∃ r : Int, 0 ≤ r ∧ r < n ∧ e = .returned (.int .i64 r) ∧ w = w'
theorem below_any (x n : Int) (w : World) (hx : I64 x) (hn : 1 ≤ n) (hn' : n ≤ 1000000000) : Calls Tryd.prog 51 #[.int .i64 x, .int .i64 n] w (RetBelow n w) := by
 have h1 : x.tmod n < n := Int.tmod_lt_of_pos x (by omega)
 have h2 : -n < x.tmod n := by
  have := Int.lt_tmod_of_pos x (b := n) (by omega)
  omega
 have HH := Lib.hid (And.intro h1 h2)
 have hn0 : (n == 0) = false := by simp; omega
 have hw : IntKind.i64.wrap (x.tmod n) = x.tmod n := IntWalk.i64_in _ (by omega)
 have Hn' := Lib.hid hn'
 clear hn' h1 h2
 by_cases h0 : x.tmod n < 0
 ·have ha : IntKind.i64.wrap (x.tmod n + n) = x.tmod n + n := IntWalk.i64_in _ (by have := HH.out; have := Hn'.out; omega)
  go_enter Tryd.func51, Tryd.ntmps51
  go_wp2
  go_ret
  exact ⟨x.tmod n + n, by have := HH.out; omega, by omega, rfl, rfl⟩
 ·go_enter Tryd.func51, Tryd.ntmps51
  go_wp2
  go_ret
  exact ⟨x.tmod n, by omega, by have := HH.out; omega, rfl, rfl⟩
theorem Els.cut {α : Type} [Dat α] {w : World} {S : Nat → Prop} {xs : List α} {A : Option Addr} {c k : Nat} (h : Els w S xs A) (hl : xs.length ≤ c) :
  Els w S (xs.drop k) (if c = k then A else A.map (·.add (k * Dat.size α))) := by
 intro hne
 have hlt : k < xs.length := by
  rcases Nat.lt_or_ge k xs.length with h1 | h1
  ·exact h1
  ·exact absurd (List.drop_of_length_le h1) hne
 obtain ⟨b, o, rfl, hb, hx⟩ := h (by rintro rfl; simp at hlt)
 rw [if_neg (by omega)]
 refine ⟨b, o + k * Dat.size α, ?_, hb, fun i x hi => ?_⟩
 ·simp only [Option.map_some]
  congr 1
  unfold Addr.add; split <;> simp_all
 ·rw [List.getElem?_drop] at hi
  obtain ⟨cs, h1, h2⟩ := hx _ x hi
  exact ⟨cs, h1, by rw [show o + k * Dat.size α + i * Dat.size α = o + (k + i) * Dat.size α from by rw [Nat.add_mul]; omega]; exact h2⟩
def StreamAt (S : Nat → Prop) (w : World) (g : Nat) : Prop :=
 ∃ (xs : List Int) (A : Option Addr) (c : Nat), w.cell? ⟨g, 0, none⟩ = some (.slice A xs.length c) ∧ w.frozen? ⟨g, 0, none⟩ = false ∧ xs.length ≤ c ∧ c ≤ 9223372036854775807 ∧ Els w S xs A
theorem StreamAt.keep {S : Nat → Prop} {w w' : World} {g : Nat} (h : StreamAt S w g) (hg : ∀ i, w'.cell? ⟨g, i, none⟩ = w.cell? ⟨g, i, none⟩) (hf : ∀ i, w'.frozen? ⟨g, i, none⟩ = w.frozen? ⟨g, i, none⟩)
  (hk : ∀ p : Addr, S p.block → p.block < w.heap.size → w'.cell? p = w.cell? p) : StreamAt S w' g := by
 obtain ⟨xs, A, c, h1, h2, h3, h4, h5⟩ := h
 exact ⟨xs, A, c, (hg 0).trans h1, (hf 0).trans h2, h3, h4, h5.keep hk (fun _ h => h)⟩
theorem StreamAt.below {S : Nat → Prop} {w w' : World} {g B : Nat} (h : StreamAt S w g) (hb : Below B w w') (hB : w.heap.size ≤ B) : StreamAt S w' g := by
 have hl : g < w.heap.size := by obtain ⟨xs, A, c, h1, _⟩ := h; exact World.block_lt_of_cell? w _ h1
 exact h.keep (fun i => hb.cell (p := ⟨g, i, none⟩) (by show g < B; omega)) (fun i => hb.frozen (p := ⟨g, i, none⟩) (by show g < B; omega)) (fun p _ hp => hb.cell (by omega))
theorem StreamAt.alloc {S : Nat → Prop} {w : World} {g : Nat} (h : StreamAt S w g) (o : Obj) (_ : True) : StreamAt S (w.alloc o) g := h.below ((Below.refl _ _).alloc (Nat.le_refl _) o) (Nat.le_refl _)
theorem StreamAt.grown {S : Nat → Prop} {w w' : World} {g : Nat} {row : Option Nat} (h : StreamAt S w g) (hb : w.grownBy w' row) (hg : some g ≠ row) (hS : ∀ k, row = some k → ¬ S k) : StreamAt S w' g := by
 have hl : g < w.heap.size := by obtain ⟨xs, A, c, h1, _⟩ := h; exact World.block_lt_of_cell? w _ h1
 have hk := hb.block g hl hg
 exact h.keep (fun i => World.cell?_of_block (a := ⟨g, i, none⟩) hk) (fun i => World.frozen?_of_block (a := ⟨g, i, none⟩) hk) (fun p hp hlt => World.cell?_of_block (hb.block p.block hlt (fun e => hS _ e.symm hp)))
theorem StreamAt.setCell {S : Nat → Prop} {w : World} {g : Nat} (h : StreamAt S w g) {p : Addr} (hp : g ≠ p.block) (hS : ¬ S p.block) (u : Value) : StreamAt S (w.setCell p u) g :=
 h.grown (row := some p.block) ⟨rfl, rfl, rfl, by simp [World.setCell], fun k _ hk => Below.heap_setCell _ _ _ _ (fun e => hk (by rw [e]))⟩ (fun e => hp (by injection e)) (fun k hk => by injection hk with hk; rw [← hk]; exact hS)
def RetNext (S : Nat → Prop) (g : Nat) (n : Int) (w : World) (e : Ending) (w' : World) : Prop :=
 ∃ r : Int, 0 ≤ r ∧ r < n ∧ e = .returned (.int .i64 r) ∧ StreamAt S w' g ∧ w.grownBy w' (some g)
set_option maxRecDepth 100000 in
theorem next_any (S : Nat → Prop) (g : Nat) (n : Int) (w : World) (hn : 1 ≤ n) (hn' : n ≤ 1000000000) (hS : ¬ S g) (h : StreamAt S w g) :
  Calls Tryd.prog 49 #[.pointer (some ⟨g, 0, none⟩), .int .i64 n] w (RetNext S g n w) := by
 obtain ⟨xs, A, c, hc, hf, h1, h2, hA⟩ := h
 have HA := Lib.hid hA
 have Hn' := Lib.hid hn'
 clear hn' hA
 cases xs with
 | nil =>
  simp only [List.length_nil] at hc
  go_enter Tryd.func49, Tryd.ntmps49
  go_wp2_with fail
  go_ret
  exact ⟨0, by omega, by omega, rfl, ⟨[], A, c, hc, hf, h1, h2, HA.out⟩, World.grownBy.refl w _⟩
 | cons x xs =>
  simp only [List.length_cons] at hc h1
  obtain ⟨b, o, rfl, hb, hbs, hi, hcell⟩ := HA.out.int (k := 0) rfl
  simp only [Nat.add_zero] at hcell
  have hne : ((xs.length : Int) + 1 == 0) = false := by simp; omega
  have hne' : (0 : Int) < (xs.length : Int) + 1 := by omega
  have hc1 : (1 : Int) ≤ (c : Int) := by omega
  have hc2 : (xs.length : Int) + 1 ≤ (c : Int) := by omega
  have hgl : g < w.heap.size := World.block_lt_of_cell? w _ hc
  have hgr : ∀ u, w.grownBy (w.setCell ⟨g, 0, none⟩ u) (some g) := fun u => ⟨rfl, rfl, rfl, by simp [World.setCell], fun k hk hne => Below.heap_setCell _ _ _ _ (fun e => hne (by rw [e]))⟩
  have hst : ∀ (A' : Option Addr) (c' : Nat), xs.length ≤ c' → c' ≤ 9223372036854775807 → Els w S xs A' → StreamAt S (w.setCell ⟨g, 0, none⟩ (.slice A' xs.length c')) g := fun A' c' q1 q2 q3 =>
   ⟨xs, A', c', World.cell?_setCell_same _ _ _ hc, by rw [World.frozen?_setCell]; exact hf, q1, q2, q3.keep (fun p hp _ => World.cell?_setCell_other _ _ _ _ (fun e => hS (by rw [← e] at hp; exact hp))) (fun _ h => h)⟩
  have Hst := Lib.hid hst
  have Hgr := Lib.hid hgr
  clear hst hgr
  have hcut := HA.out.cut (k := 1) (c := c) (by simpa using h1)
  have Hcut := Lib.hid hcut
  clear hcut
  by_cases hc0 : c = 1
  ·subst hc0
   obtain rfl : xs = [] := List.eq_nil_of_length_eq_zero (by omega)
   simp only [List.length_nil, Nat.zero_add] at hc
   clear hne hne' hc1 hc2
   go_enter Tryd.func49, Tryd.ntmps49
   go_wp2_with fail
   refine (below_any x n _ hi hn Hn'.out).mono ?_
   rintro e w1 ⟨r, hr0, hr1, rfl, rfl⟩
   go_wp2
   go_ret
   exact ⟨r, hr0, hr1, rfl, Hst.out (some ⟨b, o, none⟩) 0 (by simp) (by omega) (fun h => absurd rfl h), Hgr.out _⟩
  ·have Hc0 := Lib.hid hc0
   go_enter Tryd.func49, Tryd.ntmps49
   go_wp2_with fail
   refine (below_any x n _ hi hn Hn'.out).mono ?_
   rintro e w1 ⟨r, hr0, hr1, rfl, rfl⟩
   go_wp2
   go_ret
   have he : Els w S xs (some ⟨b, o + 1, none⟩) := by have h := Hcut.out; rwa [if_neg Hc0.out] at h
   exact ⟨r, hr0, hr1, rfl, Hst.out (some ⟨b, o + 1, none⟩) (c - 1) (by omega) (by omega) he, Hgr.out _⟩
end Go.Proofs.YtjdojogjogenkaaDoor
/- Contract: parlmake.has: is the rule among the rules? -/
namespace Go.Proofs.YtjdojogjogenkaaDoor
open Go.RowKit
set_option linter.unusedVariables false
def HasR (rs : List Rule) (r : Rule) (A' : Option Addr) (c' : Nat) (w : World) (i : Value) (wr : World) : Prop :=
 ∃ k : Nat, k ≤ rs.length ∧ i = .int .i64 k ∧ r ∉ rs.take k ∧ Below w.heap.size w wr ∧ w.heap.size + 1 ≤ wr.heap.size ∧ wr.cell? ⟨w.heap.size, 0, none⟩ = some (.int .i64 r.left) ∧ wr.cell? ⟨w.heap.size, 1, none⟩ = some (.slice A' r.right.length c')
def HasI (xs ys : List Sym) (W : World) (s i : Value) (wr : World) : Prop :=
 ∃ m : Nat, m ≤ xs.length ∧ i = .int .i64 m ∧ s = .bool (decide (xs.take m = ys.take m)) ∧ Below W.heap.size W wr
theorem snoc_dec (a b : List Sym) (s t : Sym) : decide (a ++ [s] = b ++ [t]) = (decide (a = b) && decide (s = t)) := by
 rw [← Bool.decide_and]
 congr 1
 refine propext ⟨fun h => ?_, fun h => by rw [h.1, h.2]⟩
 obtain ⟨h1, h2⟩ := List.append_inj' h rfl
 exact ⟨h1, by simpa using h2⟩
theorem notin_snoc {rs : List Rule} {r x : Rule} {k : Nat} (h : r ∉ rs.take k) (hx : rs[k]? = some x) (hne : r ≠ x) : r ∉ rs.take (k + 1) := by
 rw [take_snoc hx]
 simp [h, hne]
set_option maxRecDepth 100000 in
set_option maxHeartbeats 1000000 in
theorem has_any (A A' : Option Addr) (c c' : Nat) (rs : List Rule) (r : Rule) (S : Nat → Prop) (w : World) (hm : rs.length ≤ 9223372036854775807) (hm' : r.right.length ≤ 9223372036854775807) (hA : Els w S rs A) (hA' : Els w S r.right A') :
  Calls Tryd.prog 50 #[.slice A rs.length c, .agg #[.int .i64 r.left, .slice A' r.right.length c']] w
   fun e w' => e = .returned (.bool (decide (r ∈ rs))) ∧ Below w.heap.size w w' := by
 obtain ⟨rl, rr⟩ := r
 dsimp only at *
 go_enter Tryd.func50, Tryd.ntmps50
 go_wp2
 go_loopw [11] (fun i wr => HasR rs ⟨rl, rr⟩ A' c' w i wr) (fun i _ => rs.length - (intOf i).toNat)
 case atStart => exact ⟨0, Nat.zero_le _, rfl, by simp, (Below.refl _ _).alloc (Nat.le_refl _) _, by simp, by go_simp, by go_simp⟩
 case round =>
  obtain ⟨wo, hwo⟩ : ∃ wo : World, wo = wr := ⟨_, rfl⟩
  subst hwo
  obtain ⟨k, hk, rfl, hnot, hb, hsz, hb0, hb1⟩ := hrel
  dsimp only at hb0 hb1
  have Hnot := Lib.hid hnot
  have Hb := Lib.hid hb
  have HE' := Lib.hid (hA'.below hb)
  have HE := Lib.hid (hA.below hb)
  clear hnot hb hA hA'
  have z1 : w.heap.size < wo.heap.size := by omega
  have z2 : w.heap.size < wo.heap.size + 1 := by omega
  by_cases hlt : k < rs.length
  ·obtain ⟨x, hx⟩ := get_some hlt
   obtain ⟨b, o, Ax, cx, rfl, _, hbs, hi, hxc, hcx, hEx, hc0, hc1⟩ := HE.out.rule hx
   have HEx := Lib.hid hEx
   have Hx := Lib.hid hx
   clear hx hEx
   obtain ⟨xl, xr⟩ := x
   dsimp only at *
   have hxm : xr.length ≤ 9223372036854775807 := by omega
   have next : (⟨rl, rr⟩ : Rule) ≠ ⟨xl, xr⟩ → ∀ W', Below wo.heap.size wo W' → HasR rs ⟨rl, rr⟩ A' c' w (.int .i64 ((k : Int) + 1)) W' := fun hne W' hW =>
    ⟨k + 1, by omega, by go_num, notin_snoc Hnot.out Hx.out hne, bthen Hb.out hW Hb.out.size, Nat.le_trans hsz hW.size, ((bcell hW).1 _ _ z1).trans hb0, ((bcell hW).1 _ _ z1).trans hb1⟩
   have Next := Lib.hid next
   clear next
   by_cases hl : xl = rl
   ·subst hl
    by_cases hn : xr.length = rr.length
    ·have hn' : ((xr.length : Int) != (rr.length : Int)) = false := by simp; omega
     have Hn := Lib.hid hn
     clear hn
     go_wp2
     go_loopw [7, 32] (fun s i wr => HasI xr rr (wo.alloc (.cells #[.int .i64 xl, .slice Ax xr.length cx] 60)) s i wr) (fun _ i _ => xr.length - (intOf i).toNat)
     case atStart => exact ⟨0, Nat.zero_le _, rfl, by simp, Below.refl _ _⟩
     case round =>
      obtain ⟨m, hm, rfl, rfl, hbm⟩ := hrel
      obtain ⟨hcm, _⟩ := bcell hbm
      have p0 := hcm wo.heap.size 0 (by simp)
      have p1 := hcm wo.heap.size 1 (by simp)
      have p2 := hcm w.heap.size 1 (by simp; omega)
      have p3 := hcm w.heap.size 0 (by simp; omega)
      simp only [World.cell?_alloc_lt _ _ ⟨w.heap.size, 1, none⟩ z1, World.cell?_alloc_lt _ _ ⟨w.heap.size, 0, none⟩ z1, hb0, hb1, World.cell?_alloc_new] at p0 p1 p2 p3
      simp at p0 p1
      have Hbm := Lib.hid hbm
      have hba : Below wo.heap.size wo (wo.alloc (.cells #[.int .i64 xl, .slice Ax xr.length cx] 60)) := (Below.refl _ _).alloc (Nat.le_refl _) _
      have HEm := Lib.hid (((HEx.out).below hba).below hbm)
      have HEm' := Lib.hid (((HE'.out).below hba).below hbm)
      clear hcm hbm hba
      by_cases hml : m < xr.length
      ·obtain ⟨s, hs⟩ := get_some hml
       obtain ⟨s', hs'⟩ := get_some (show m < rr.length by have := Hn.out; omega)
       obtain ⟨bs, os, rfl, _, hbs1, _, hs0, hs1⟩ := HEm.out.sym hs
       obtain ⟨bs', os', rfl, _, hbs2, _, hs2, hs3⟩ := HEm'.out.sym hs'
       have Ht := Lib.hid (take_snoc hs)
       have Ht' := Lib.hid (take_snoc hs')
       clear hs hs'
       obtain ⟨st, sn⟩ := s
       obtain ⟨st', sn'⟩ := s'
       dsimp only at *
       have hm0 : (0 : Int) ≤ (m : Int) := by omega
       have hm1 : (m : Int) < (xr.length : Int) := by omega
       have hm2 : (m : Int) < (rr.length : Int) := by have := Hn.out; omega
       have fin : ∀ (b : Bool), b = (decide (xr.take m = rr.take m) && decide ((⟨st, sn⟩ : Sym) = ⟨st', sn'⟩)) → ∀ nq, HasI xr rr (wo.alloc (.cells #[.int .i64 xl, .slice (some ⟨bs, os, none⟩) xr.length cx] 60)) (.bool b) (.int .i64 ((m : Int) + 1)) (wr.drewN nq) := fun b hb nq =>
        ⟨m + 1, by omega, by go_num, by rw [hb, Ht.out, Ht'.out, snoc_dec], bdrewN Hbm.out⟩
       have Fin := Lib.hid fin
       clear fin
       cases hd : decide (xr.take m = rr.take m)
       ·go_wp2
        go_quiet (fail)
        go_wp2
        go_roundw
        case rel => exact Fin.out _ (by rw [hd]; rfl) _
        case measure => simp [intOf]; omega
       ·by_cases he : (⟨st, sn⟩ : Sym) = ⟨st', sn'⟩
        ·injection he with h1 h2
         subst h1; subst h2
         go_wp2
         go_quiet (fail)
         go_wp2
         go_roundw
         case rel => exact Fin.out _ (by rw [hd]; simp) _
         case measure => simp [intOf]; omega
        ·have Hd := Lib.hid (show decide ((⟨st, sn⟩ : Sym) = ⟨st', sn'⟩) = false by simpa using he)
         have Hne := Lib.hid he
         clear he
         by_cases htt : st = st'
         ·subst htt
          have hzz : (sn == sn') = false := by simp; rintro rfl; exact Hne.out rfl
          go_wp2
          go_quiet (fail)
          go_wp2
          go_roundw
          case rel => exact Fin.out _ (by rw [Hd.out]; simp) _
          case measure => simp [intOf]; omega
         ·have htb : (st == st') = false := by simpa using htt
          clear htt
          go_wp2
          go_quiet (fail)
          go_wp2
          go_roundw
          case rel => exact Fin.out _ (by rw [Hd.out]; simp) _
          case measure => simp [intOf]; omega
      ·have hmx : m = xr.length := by omega
       subst hmx
       have htk : decide (xr.take xr.length = rr.take xr.length) = decide (xr = rr) := by rw [List.take_length, Hn.out, List.take_length]
       rw [htk]
       clear htk p0 p1 p2 p3
       by_cases he : xr = rr
       ·have E0 := Lib.hid (show decide ((⟨xl, rr⟩ : Rule) ∈ rs) = true by rw [decide_eq_true_eq, ← he]; exact List.mem_of_getElem? Hx.out)
        have hd : decide (xr = rr) = true := by simpa using he
        rw [hd]
        clear hd he
        go_wp2
        go_ret
        exact ⟨ret_bool E0.out.symm, bthen (Hb.out.alloc Hb.out.size _) Hbm.out (by simp; omega)⟩
       ·have hd : decide (xr = rr) = false := by simpa using he
        have He := Lib.hid he
        rw [hd]
        clear hd he
        go_wp2
        go_roundw
        case rel => exact Next.out (fun e => He.out (by injection e with _ e2; exact e2.symm)) _ (bthen ((Below.refl _ _).alloc (Nat.le_refl _) _) Hbm.out (by simp))
        case measure => simp [intOf]; omega
    ·have hn' : ((xr.length : Int) != (rr.length : Int)) = true := by simp; omega
     have Hn := Lib.hid hn
     clear hn
     go_wp2
     go_roundw
     case rel => exact Next.out (fun e => Hn.out (by injection e with _ e2; rw [e2])) _ ((Below.refl _ _).alloc (Nat.le_refl _) _)
     case measure => simp [intOf]; omega
   ·have hl' : (xl != rl) = true := by simpa using hl
    have Hl := Lib.hid hl
    clear hl
    go_wp2
    go_roundw
    case rel => exact Next.out (fun e => Hl.out (by injection e with e1 _; exact e1.symm)) _ ((Below.refl _ _).alloc (Nat.le_refl _) _)
    case measure => simp [intOf]; omega
  ·have e0 : decide ((⟨rl, rr⟩ : Rule) ∈ rs) = false := by
    have h := Hnot.out
    rw [List.take_of_length_le (by omega)] at h
    simpa using h
   have E0 := Lib.hid e0
   clear e0
   go_wp2
   go_ret
   exact ⟨ret_bool E0.out.symm, Hb.out⟩
end Go.Proofs.YtjdojogjogenkaaDoor
/- The numbers of the rules that a predicate names; a valid grammar's number of rules. -/
namespace Go.Proofs.YtjdojogjogenkaaDoor
open Go.RowKit
set_option linter.unusedVariables false
def whereFrom (p : Rule → Bool) : Nat → List Rule → List Int
 | _, [] => []
 | k, r :: rs => if p r then (k : Int) :: whereFrom p (k + 1) rs else whereFrom p (k + 1) rs
def whereE (g : Gram) (n : Int) : Int := if checkI g ≠ 0 then checkI g else if n < 0 ∨ g.nons ≤ n then 1 else 0
def whereL (g : Gram) (n : Int) (p : Rule → Bool) : List Int := if whereE g n = 0 then whereFrom p 0 g.rules else []
theorem whereFrom_len (p : Rule → Bool) : ∀ (k : Nat) (rs : List Rule), (whereFrom p k rs).length ≤ rs.length
 | _, [] => by simp [whereFrom]
 | k, r :: rs => by
  have := whereFrom_len p (k + 1) rs
  unfold whereFrom; split <;> simp <;> omega
def RetInts (w : World) (l : List Int) (er : Int) (e : Ending) (w' : World) : Prop :=
 ∃ v, e = .returned (.tuple #[v, .int .i64 er]) ∧ Own w' (fun _ => False) w.heap.size 3 v l ∧ Below w.heap.size w w'
theorem checkI_nonneg_len {g : Gram} (h : checkI g = 0) : g.rules.length ≤ 32 := by
 unfold checkI at h
 split at h
 ·omega
 ·split at h <;> omega
end Go.Proofs.YtjdojogjogenkaaDoor
/- The comparisons answer zero just at equal things. No program is named here. -/
namespace Go.Proofs.YtjdojogjogenkaaDoor
theorem cmpI_zero {a b : Int} : cmpI a b = 0 ↔ a = b := by unfold cmpI; split <;> (try split) <;> omega
theorem symCmp_zero {a b : Sym} : symCmp a b = 0 ↔ a = b := by
 obtain ⟨t, n⟩ := a
 obtain ⟨t', n'⟩ := b
 unfold symCmp
 by_cases h : t = t'
 ·subst h; simp [cmpI_zero]
 ·simp only [if_neg h]
  constructor
  ·intro e; split at e <;> cases e
  ·intro e; injection e with e1 _; exact absurd e1 h
theorem symsCmp_zero : ∀ {a b : List Sym}, symsCmp a b = 0 ↔ a = b
 | [], [] => by simp [symsCmp]
 | [], _ :: _ => by simp [symsCmp]
 | _ :: _, [] => by simp [symsCmp]
 | x :: xs, y :: ys => by
  unfold symsCmp
  by_cases h : symCmp x y = 0
  ·rw [if_pos h, symsCmp_zero]
   have := symCmp_zero.1 h
   subst this; simp
  ·rw [if_neg h]
   constructor
   ·intro e; exact absurd e h
   ·intro e; injection e with e1 _; exact absurd (symCmp_zero.2 e1) h
theorem ruleCmp_zero {a b : Rule} : ruleCmp a b = 0 ↔ a = b := by
 obtain ⟨l, r⟩ := a
 obtain ⟨l', r'⟩ := b
 unfold ruleCmp orI orI orI
 by_cases h : cmpI l l' = 0
 ·simp only [h, if_true]
  have := cmpI_zero.1 h
  subst this
  by_cases h2 : symsCmp r r' = 0
  ·have e := symsCmp_zero.1 h2
   subst e
   simp [h2]
  ·simp only [if_neg h2]
   constructor
   ·intro e; exact absurd e h2
   ·intro e; injection e with _ e2; exact absurd (symsCmp_zero.2 e2) h2
 ·simp only [if_neg h]
  constructor
  ·intro e; exact absurd e h
  ·intro e; injection e with e1 _; exact absurd (cmpI_zero.2 e1) h
end Go.Proofs.YtjdojogjogenkaaDoor
/- Contract: parlmake.Word. -/
namespace Go.Proofs.YtjdojogjogenkaaDoor
open Go.RowKit
set_option linter.unusedVariables false
def MkwS (tm : Int) (most : Nat) (n : Nat) (w : World) (v i : Value) (wr : World) : Prop :=
 ∃ (k : Nat) (ws : List Int), k ≤ n ∧ i = .int .i64 k ∧ ws.length ≤ most ∧ (∀ x ∈ ws, 0 ≤ x ∧ x < tm) ∧ Own wr (fun _ => False) w.heap.size 3 v ws ∧ Below w.heap.size w wr
set_option maxRecDepth 100000 in
set_option maxHeartbeats 8000000 in
theorem mkword_any (tm : Int) (most : Nat) (xs : List Int) (A : Option Addr) (c : Nat) (S : Nat → Prop) (w : World) (ht : 1 ≤ tm) (ht' : tm ≤ 100) (hm : most ≤ 100) (hlc : xs.length ≤ c) (hc : c ≤ 9223372036854775807) (hA : Els w S xs A) (hS : ∀ b, S b → b < w.heap.size) :
  Calls Tryd.prog 18 #[.int .i64 tm, .int .i64 (most : Int), .slice A xs.length c] w fun e w' => ∃ v ws, e = .returned v ∧ ws.length ≤ most ∧ (∀ x ∈ ws, 0 ≤ x ∧ x < tm) ∧ Own w' (fun _ => False) w.heap.size 3 v ws ∧ Below w.heap.size w w' := by
 have HA := Lib.hid hA
 have HS := Lib.hid hS
 clear hA hS
 go_enter Tryd.func18, Tryd.ntmps18
 go_wp2_with fail
 go_loopw [7, 12] (fun v i wr => MkwS tm most xs.length w v i wr) (fun _ i _ => xs.length - (intOf i).toNat)
 case atStart => exact ⟨0, [], Nat.zero_le _, rfl, Nat.zero_le _, by simp, Own.nil _ _ _ _, Below.refl _ _⟩
 case round =>
  obtain ⟨wo, hwo⟩ : ∃ wo : World, wo = wr := ⟨_, rfl⟩
  subst hwo
  obtain ⟨k, ws, hk, rfl, hwl, hws, hown, hb⟩ := hrel
  obtain ⟨As, cs, rfl, hcs1, hcs2, _⟩ := hown.form
  have HO := Lib.hid hown
  have HW := Lib.hid hws
  have HB := Lib.hid hb
  clear hown hws hb
  by_cases hlt : k < xs.length
  ·obtain ⟨x, hx⟩ := get_some hlt
   obtain ⟨bi, oi, rfl, hSi, hbi, hxi, hxc⟩ := (HA.out.belowB HB.out HS.out).int hx
   have HX := Lib.hid hxi
   have hk0 : (0 : Int) ≤ (k : Int) := by omega
   clear hx hxi
   by_cases hfull : ws.length = most
   ·go_wp2
    go_ret
    exact ⟨_, ws, rfl, hwl, HW.out, HO.out, HB.out⟩
   ·have hne : ¬ ((ws.length : Int) = (most : Int)) := by omega
    go_wp2_with fail
    refine (below_any x tm _ HX.out ht (by omega)).mono ?_
    rintro e w3 ⟨r, hr0, hr1, rfl, rfl⟩
    have HR := Lib.hid (And.intro hr0 hr1)
    have hI : Hid (I64 r) := Lib.hid ⟨by omega, by omega⟩
    have hcap1 : (ws.length + 1) * 8 ≤ 140737488355328 := by omega
    have hcap2 : ws.length + 1 ≤ 9223372036854775807 := by omega
    clear hr0 hr1
    go_wp2_with (at_builtin; refine wpList_own1 _ rfl _ _ elemInt rfl rfl (HO.out.alloc _) r [.int .i64 r] rfl (At.new _ _ _) ⟨rfl, hI.out⟩ hcap1 hcap2 (Nat.le_trans HB.out.size ((Below.refl _ _).alloc (Nat.le_refl _) _).size) ?_; intro v' w3 hown3 hg3 hat3; have H3 := Lib.hid (And.intro hown3 hg3); clear hown3 hg3 hat3)
    go_roundw
    case rel =>
     refine ⟨k + 1, ws ++ [r], hlt, by go_num, by rw [List.length_append]; simp; omega, fun y hy => ?_, H3.out.1, bgrown (HB.out.alloc HB.out.size _) H3.out.2 (HO.out.alloc _) (Nat.le_refl _) (Nat.le_trans HB.out.size ((Below.refl _ _).alloc (Nat.le_refl _) _).size)⟩
     rcases List.mem_append.1 hy with h | h
     ·exact HW.out y h
     ·simp at h
      subst h
      exact HR.out
    case measure => simp [intOf]; omega
  ·go_wp2
   go_ret
   exact ⟨_, ws, rfl, hwl, HW.out, HO.out, HB.out⟩
end Go.Proofs.YtjdojogjogenkaaDoor
