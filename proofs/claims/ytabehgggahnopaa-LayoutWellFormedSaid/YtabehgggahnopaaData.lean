/- The program's data as plain Lean data, and how they read in memory. -/
import Derived.Test.YtabehgggahnopaaMem
namespace Go.Proofs.Ytabehgggahnopaa
open Go.RowKit

structure Sym where
  term : Bool
  n : Int
  deriving DecidableEq, Repr
structure Rule where
  left : Int
  right : List Sym
  deriving DecidableEq, Repr
structure Gram where
  terms : Int
  nons : Int
  start : Int
  rules : List Rule
  deriving DecidableEq, Repr
inductive Tree where
  | mk (rule term : Int) (kids : List Tree)
def Tree.rule : Tree → Int | ⟨r, _, _⟩ => r
def Tree.term : Tree → Int | ⟨_, t, _⟩ => t
def Tree.kids : Tree → List Tree | ⟨_, _, ks⟩ => ks

instance instDatSym : Dat Sym where
  size := 2
  wraps := true
  rd _ _ s cs := cs = [.bool s.term, .int .i64 s.n] ∧ I64 s.n
  len h := by rw [h.1]; rfl
  pos := by decide
  flat h := by simp at h
  one h := by rw [h.1]; intro u hu; simp at hu; rcases hu with rfl | rfl <;> rfl
  keep _ _ h := h
instance instDatRule : Dat Rule where
  size := 2
  wraps := true
  rd w S r cs := ∃ v, cs = [.int .i64 r.left, v] ∧ I64 r.left ∧ Vl w S r.right v
  len h := by obtain ⟨v, rfl, _⟩ := h; rfl
  pos := by decide
  flat h := by simp at h
  one h := by
    obtain ⟨v, rfl, _, hv⟩ := h
    obtain ⟨A, c, rfl, _⟩ := hv.slice
    intro u hu; simp at hu; rcases hu with rfl | rfl <;> rfl
  keep hk hS h := by obtain ⟨v, h1, h2, h3⟩ := h; exact ⟨v, h1, h2, h3.keep hk hS⟩
instance instDatGram : Dat Gram where
  size := 4
  wraps := true
  rd w S g cs := ∃ v, cs = [.int .i64 g.terms, .int .i64 g.nons, .int .i64 g.start, v] ∧ I64 g.terms ∧ I64 g.nons ∧ I64 g.start ∧ Vl w S g.rules v
  len h := by obtain ⟨v, rfl, _⟩ := h; rfl
  pos := by decide
  flat h := by simp at h
  one h := by
    obtain ⟨v, rfl, _, _, _, hv⟩ := h
    obtain ⟨A, c, rfl, _⟩ := hv.slice
    intro u hu; simp at hu; rcases hu with rfl | rfl | rfl | rfl <;> rfl
  keep hk hS h := by obtain ⟨v, h1, h2, h3, h4, h5⟩ := h; exact ⟨v, h1, h2, h3, h4, h5.keep hk hS⟩

/-! Trees: the reading by recursion. -/
mutual
def rdT (w : World) (S : Nat → Prop) : Tree → List Value → Prop
  | ⟨r, t, ks⟩, cs => I64 r ∧ I64 t ∧ ∃ A c, cs = [.int .i64 r, .int .i64 t, .slice A ks.length c] ∧ ks.length ≤ c ∧ c ≤ maxLen ∧ (ks ≠ [] → ∃ b o, A = some ⟨b, o, none⟩ ∧ S b ∧ rdTs w S ks b o)
def rdTs (w : World) (S : Nat → Prop) : List Tree → Nat → Nat → Prop
  | [], _, _ => True
  | k :: ks, b, o => (∃ cs, rdT w S k cs ∧ At w b o cs) ∧ rdTs w S ks b (o + 3)
end
theorem rdT_len {w : World} {S : Nat → Prop} {t : Tree} {cs : List Value} (h : rdT w S t cs) : cs.length = 3 := by
  cases t with
  | mk r t ks => unfold rdT at h; obtain ⟨_, _, A, c, rfl, _⟩ := h; rfl
theorem rdTs_iff {w : World} {S : Nat → Prop} : ∀ (ks : List Tree) (b o : Nat), rdTs w S ks b o ↔ ∀ (i : Nat) (x : Tree), ks[i]? = some x → ∃ cs, rdT w S x cs ∧ At w b (o + i * 3) cs
  | [], b, o => by simp [rdTs]
  | k :: ks, b, o => by
    rw [rdTs, rdTs_iff ks]
    constructor
    · rintro ⟨h1, h2⟩ i x hi
      match i with
      | 0 => simp at hi; subst hi; simpa using h1
      | i + 1 =>
        have := h2 i x (by simpa using hi)
        rw [show o + (i + 1) * 3 = o + 3 + i * 3 from by omega]
        exact this
    · intro h
      refine ⟨by simpa using h 0 k rfl, fun i x hi => ?_⟩
      have := h (i + 1) x (by simpa using hi)
      rw [show o + 3 + i * 3 = o + (i + 1) * 3 from by omega]
      exact this
mutual
theorem rdT_keep {w w' : World} {S S' : Nat → Prop} (hk : ∀ p : Addr, S p.block → p.block < w.heap.size → w'.cell? p = w.cell? p) (hS : ∀ b, S b → S' b) : ∀ (t : Tree) (cs : List Value), rdT w S t cs → rdT w' S' t cs
  | ⟨r, t, ks⟩, cs, h => by
    unfold rdT at h ⊢
    obtain ⟨h1, h2, A, c, h3, h4, h5, h6⟩ := h
    refine ⟨h1, h2, A, c, h3, h4, h5, fun hne => ?_⟩
    obtain ⟨b, o, hA, hb, hks⟩ := h6 hne
    exact ⟨b, o, hA, hS _ hb, rdTs_keep hk hS ks b o hb hks⟩
theorem rdTs_keep {w w' : World} {S S' : Nat → Prop} (hk : ∀ p : Addr, S p.block → p.block < w.heap.size → w'.cell? p = w.cell? p) (hS : ∀ b, S b → S' b) : ∀ (ks : List Tree) (b o : Nat), S b → rdTs w S ks b o → rdTs w' S' ks b o
  | [], _, _, _, _ => by simp [rdTs]
  | k :: ks, b, o, hb, h => by
    rw [rdTs] at h ⊢
    obtain ⟨⟨cs, h1, h2⟩, h3⟩ := h
    have hlt : b < w.heap.size := h2.lt (by rw [rdT_len h1]; decide)
    exact ⟨⟨cs, rdT_keep hk hS k cs h1, h2.keep fun p hp => hk p (hp ▸ hb) (hp ▸ hlt)⟩, rdTs_keep hk hS ks b (o + 3) hb h3⟩
end
instance instDatTree : Dat Tree where
  size := 3
  wraps := true
  rd := rdT
  len := rdT_len
  pos := by decide
  flat h := by simp at h
  one {w S t cs} h := by
    cases t with
    | mk r t ks =>
      unfold rdT at h; obtain ⟨_, _, A, c, rfl, _⟩ := h
      intro u hu; simp at hu; rcases hu with rfl | rfl | rfl <;> rfl
  keep hk hS h := rdT_keep hk hS _ _ h
theorem rd_tree {w : World} {S : Nat → Prop} {t : Tree} {cs : List Value} : Dat.rd w S t cs ↔ ∃ v, cs = [.int .i64 t.rule, .int .i64 t.term, v] ∧ I64 t.rule ∧ I64 t.term ∧ Vl w S t.kids v := by
  cases t with
  | mk r t ks =>
    show rdT w S _ cs ↔ _
    unfold rdT
    constructor
    · rintro ⟨h1, h2, A, c, rfl, h4, h5, h6⟩
      refine ⟨_, rfl, h1, h2, Vl.of_slice rfl h4 (by simpa [maxLen] using h5) fun hne => ?_⟩
      obtain ⟨b, o, hA, hb, hks⟩ := h6 hne
      exact ⟨b, o, hA, hb, (rdTs_iff _ _ _).1 hks⟩
    · rintro ⟨v, rfl, h1, h2, hv⟩
      obtain ⟨A, c, rfl, h4, h5, h6⟩ := hv.slice
      refine ⟨h1, h2, A, c, rfl, h4, by simpa [maxLen] using h5, fun hne => ?_⟩
      obtain ⟨b, o, hA, hb, hks⟩ := h6 hne
      exact ⟨b, o, hA, hb, (rdTs_iff _ _ _).2 hks⟩

section
variable {w : World} {S : Nat → Prop}
theorem Vl.sym {s : Sym} {v : Value} (h : Vl w S s v) : v = .agg #[.bool s.term, .int .i64 s.n] ∧ I64 s.n := by
  obtain ⟨cs, ⟨rfl, h1⟩, hv⟩ := h
  exact ⟨hv, h1⟩
theorem Vl.of_sym {s : Sym} (h : I64 s.n) : Vl w S s (.agg #[.bool s.term, .int .i64 s.n]) := ⟨_, ⟨rfl, h⟩, rfl⟩
theorem Vl.rule {r : Rule} {v : Value} (h : Vl w S r v) : ∃ s, v = .agg #[.int .i64 r.left, s] ∧ I64 r.left ∧ Vl w S r.right s := by
  obtain ⟨cs, ⟨s, rfl, h1, h2⟩, hv⟩ := h
  exact ⟨s, hv, h1, h2⟩
theorem Vl.of_rule {r : Rule} {s : Value} (h1 : I64 r.left) (h2 : Vl w S r.right s) : Vl w S r (.agg #[.int .i64 r.left, s]) := ⟨_, ⟨s, rfl, h1, h2⟩, rfl⟩
theorem Vl.gram {g : Gram} {v : Value} (h : Vl w S g v) : ∃ s, v = .agg #[.int .i64 g.terms, .int .i64 g.nons, .int .i64 g.start, s] ∧ I64 g.terms ∧ I64 g.nons ∧ I64 g.start ∧ Vl w S g.rules s := by
  obtain ⟨cs, ⟨s, rfl, h1, h2, h3, h4⟩, hv⟩ := h
  exact ⟨s, hv, h1, h2, h3, h4⟩
theorem Vl.of_gram {g : Gram} {s : Value} (h1 : I64 g.terms) (h2 : I64 g.nons) (h3 : I64 g.start) (h4 : Vl w S g.rules s) : Vl w S g (.agg #[.int .i64 g.terms, .int .i64 g.nons, .int .i64 g.start, s]) := ⟨_, ⟨s, rfl, h1, h2, h3, h4⟩, rfl⟩
theorem Vl.tree {t : Tree} {v : Value} (h : Vl w S t v) : ∃ s, v = .agg #[.int .i64 t.rule, .int .i64 t.term, s] ∧ I64 t.rule ∧ I64 t.term ∧ Vl w S t.kids s := by
  obtain ⟨cs, hr, hv⟩ := h
  obtain ⟨s, rfl, h1, h2, h3⟩ := rd_tree.1 hr
  exact ⟨s, hv, h1, h2, h3⟩
theorem Vl.of_tree {t : Tree} {s : Value} (h1 : I64 t.rule) (h2 : I64 t.term) (h3 : Vl w S t.kids s) : Vl w S t (.agg #[.int .i64 t.rule, .int .i64 t.term, s]) := ⟨_, rd_tree.2 ⟨s, rfl, h1, h2, h3⟩, rfl⟩
end

/-! The elements of a slice, for a walk: the cells as the walk spells their addresses. -/
section
variable {w : World} {S : Nat → Prop} {A : Option Addr} {k : Nat}
theorem Els.int {xs : List Int} {x : Int} (h : Els w S xs A) (hk : xs[k]? = some x) : ∃ b o, A = some ⟨b, o, none⟩ ∧ S b ∧ b < w.heap.size ∧ I64 x ∧ w.cell? ⟨b, o + k, none⟩ = some (.int .i64 x) := by
  obtain ⟨b, o, cs, hA, hS, hb, ⟨rfl, h1⟩, hc⟩ := h.at_ hk
  exact ⟨b, o, hA, hS, hb, h1, by have h := hc.c0; rwa [show o + k * Dat.size Int = o + k from by show o + k * 1 = _; omega] at h⟩
theorem Els.bool {xs : List Bool} {x : Bool} (h : Els w S xs A) (hk : xs[k]? = some x) : ∃ b o, A = some ⟨b, o, none⟩ ∧ S b ∧ b < w.heap.size ∧ w.cell? ⟨b, o + k, none⟩ = some (.bool x) := by
  obtain ⟨b, o, cs, hA, hS, hb, rfl, hc⟩ := h.at_ hk
  exact ⟨b, o, hA, hS, hb, by have h := hc.c0; rwa [show o + k * Dat.size Bool = o + k from by show o + k * 1 = _; omega] at h⟩
theorem Els.list {α : Type} [Dat α] {xs : List (List α)} {x : List α} (h : Els w S xs A) (hk : xs[k]? = some x) : ∃ b o A' c, A = some ⟨b, o, none⟩ ∧ S b ∧ b < w.heap.size ∧ x.length ≤ c ∧ c ≤ 9223372036854775807 ∧ Els w S x A' ∧ w.cell? ⟨b, o + k, none⟩ = some (.slice A' x.length c) := by
  obtain ⟨b, o, cs, hA, hS, hb, ⟨A', c, rfl, h2, h3, h4⟩, hc⟩ := h.at_ hk
  exact ⟨b, o, A', c, hA, hS, hb, h2, by simpa [maxLen] using h3, h4, by have h := hc.c0; rwa [show o + k * Dat.size (List α) = o + k from by show o + k * 1 = _; omega] at h⟩
theorem Els.sym {xs : List Sym} {x : Sym} (h : Els w S xs A) (hk : xs[k]? = some x) :
    ∃ b o, A = some ⟨b, o, none⟩ ∧ S b ∧ b < w.heap.size ∧ I64 x.n ∧ w.cell? ⟨b, o + k * 2, none⟩ = some (.bool x.term) ∧ w.cell? ⟨b, o + k * 2 + 1, none⟩ = some (.int .i64 x.n) := by
  obtain ⟨b, o, cs, hA, hS, hb, ⟨rfl, h1⟩, hc⟩ := h.at_ hk
  exact ⟨b, o, hA, hS, hb, h1, hc.c0, hc.c1⟩
theorem Els.rule {xs : List Rule} {x : Rule} (h : Els w S xs A) (hk : xs[k]? = some x) :
    ∃ b o A' c, A = some ⟨b, o, none⟩ ∧ S b ∧ b < w.heap.size ∧ I64 x.left ∧ x.right.length ≤ c ∧ c ≤ 9223372036854775807 ∧ Els w S x.right A' ∧ w.cell? ⟨b, o + k * 2, none⟩ = some (.int .i64 x.left) ∧ w.cell? ⟨b, o + k * 2 + 1, none⟩ = some (.slice A' x.right.length c) := by
  obtain ⟨b, o, cs, hA, hS, hb, ⟨v, rfl, h1, hv⟩, hc⟩ := h.at_ hk
  obtain ⟨A', c, rfl, h2, h3, h4⟩ := hv.slice
  exact ⟨b, o, A', c, hA, hS, hb, h1, h2, h3, h4, hc.c0, hc.c1⟩
theorem Els.tree {xs : List Tree} {x : Tree} (h : Els w S xs A) (hk : xs[k]? = some x) :
    ∃ b o A' c, A = some ⟨b, o, none⟩ ∧ S b ∧ b < w.heap.size ∧ I64 x.rule ∧ I64 x.term ∧ x.kids.length ≤ c ∧ c ≤ 9223372036854775807 ∧ Els w S x.kids A' ∧ w.cell? ⟨b, o + k * 3, none⟩ = some (.int .i64 x.rule) ∧ w.cell? ⟨b, o + k * 3 + 1, none⟩ = some (.int .i64 x.term) ∧ w.cell? ⟨b, o + k * 3 + 1 + 1, none⟩ = some (.slice A' x.kids.length c) := by
  obtain ⟨b, o, cs, hA, hS, hb, hr, hc⟩ := h.at_ hk
  obtain ⟨v, rfl, h1, h1', hv⟩ := rd_tree.1 hr
  obtain ⟨A', c, rfl, h2, h3, h4⟩ := hv.slice
  exact ⟨b, o, A', c, hA, hS, hb, h1, h1', h2, h3, h4, hc.c0, hc.c1, hc.d2⟩
end
end Go.Proofs.Ytabehgggahnopaa
