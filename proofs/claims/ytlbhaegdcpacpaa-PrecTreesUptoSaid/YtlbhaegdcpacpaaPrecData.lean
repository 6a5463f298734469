/- A table of operators as plain Lean data, and how it reads in memory. -/
import Derived.Test.YtlbhaegdcpacpaaData
namespace Go.Proofs.Ytlbhaegdcpacpaa
open Go.RowKit

structure Level where
  kind : Int
  ops : List Int
  deriving DecidableEq, Repr
structure Table where
  terms : Int
  atom : Int
  opn : Int
  cls : Int
  levels : List Level
  deriving DecidableEq, Repr
instance instDatLevel : Dat Level where
  size := 2
  wraps := true
  rd w S r cs := ∃ v, cs = [.int .i64 r.kind, v] ∧ I64 r.kind ∧ Vl w S r.ops v
  len h := by obtain ⟨v, rfl, _⟩ := h; rfl
  pos := by decide
  flat h := by simp at h
  one h := by
    obtain ⟨v, rfl, _, hv⟩ := h
    obtain ⟨A, c, rfl, _⟩ := hv.slice
    intro u hu; simp at hu; rcases hu with rfl | rfl <;> rfl
  keep hk hS h := by obtain ⟨v, h1, h2, h3⟩ := h; exact ⟨v, h1, h2, h3.keep hk hS⟩
instance instDatTable : Dat Table where
  size := 5
  wraps := true
  rd w S g cs := ∃ v, cs = [.int .i64 g.terms, .int .i64 g.atom, .int .i64 g.opn, .int .i64 g.cls, v] ∧ I64 g.terms ∧ I64 g.atom ∧ I64 g.opn ∧ I64 g.cls ∧ Vl w S g.levels v
  len h := by obtain ⟨v, rfl, _⟩ := h; rfl
  pos := by decide
  flat h := by simp at h
  one h := by
    obtain ⟨v, rfl, _, _, _, _, hv⟩ := h
    obtain ⟨A, c, rfl, _⟩ := hv.slice
    intro u hu; simp at hu; rcases hu with rfl | rfl | rfl | rfl | rfl <;> rfl
  keep hk hS h := by obtain ⟨v, h1, h2, h3, h4, h5, h6⟩ := h; exact ⟨v, h1, h2, h3, h4, h5, h6.keep hk hS⟩
section
variable {w : World} {S : Nat → Prop}
theorem Vl.level {r : Level} {v : Value} (h : Vl w S r v) : ∃ s, v = .agg #[.int .i64 r.kind, s] ∧ I64 r.kind ∧ Vl w S r.ops s := by
  obtain ⟨cs, ⟨s, rfl, h1, h2⟩, hv⟩ := h
  exact ⟨s, hv, h1, h2⟩
theorem Vl.of_level {r : Level} {s : Value} (h1 : I64 r.kind) (h2 : Vl w S r.ops s) : Vl w S r (.agg #[.int .i64 r.kind, s]) := ⟨_, ⟨s, rfl, h1, h2⟩, rfl⟩
theorem Vl.table {g : Table} {v : Value} (h : Vl w S g v) : ∃ s, v = .agg #[.int .i64 g.terms, .int .i64 g.atom, .int .i64 g.opn, .int .i64 g.cls, s] ∧ I64 g.terms ∧ I64 g.atom ∧ I64 g.opn ∧ I64 g.cls ∧ Vl w S g.levels s := by
  obtain ⟨cs, ⟨s, rfl, h1, h2, h3, h4, h5⟩, hv⟩ := h
  exact ⟨s, hv, h1, h2, h3, h4, h5⟩
theorem Vl.of_table {g : Table} {s : Value} (h1 : I64 g.terms) (h2 : I64 g.atom) (h3 : I64 g.opn) (h4 : I64 g.cls) (h5 : Vl w S g.levels s) : Vl w S g (.agg #[.int .i64 g.terms, .int .i64 g.atom, .int .i64 g.opn, .int .i64 g.cls, s]) := ⟨_, ⟨s, rfl, h1, h2, h3, h4, h5⟩, rfl⟩
theorem Els.level {A : Option Addr} {k : Nat} {xs : List Level} {x : Level} (h : Els w S xs A) (hk : xs[k]? = some x) :
    ∃ b o A' c, A = some ⟨b, o, none⟩ ∧ S b ∧ b < w.heap.size ∧ I64 x.kind ∧ x.ops.length ≤ c ∧ c ≤ 9223372036854775807 ∧ Els w S x.ops A' ∧ w.cell? ⟨b, o + k * 2, none⟩ = some (.int .i64 x.kind) ∧ w.cell? ⟨b, o + k * 2 + 1, none⟩ = some (.slice A' x.ops.length c) := by
  obtain ⟨b, o, cs, hA, hS, hb, ⟨v, rfl, h1, hv⟩, hc⟩ := h.at_ hk
  obtain ⟨A', c, rfl, h2, h3, h4⟩ := hv.slice
  exact ⟨b, o, A', c, hA, hS, hb, h1, h2, h3, h4, hc.c0, hc.c1⟩
end
end Go.Proofs.Ytlbhaegdcpacpaa
