/- Plain parts of cycle.Loops: the steps of the rules, the nonterminals on cycles. -/
import Derived.Test.YtjdojogjogenkaaDoorQPasses
import Derived.Test.YtjdojogjogenkaaDoorQCycClo
import Derived.Test.YtjdojogjogenkaaDoorQw1
namespace Go.Proofs.YtjdojogjogenkaaDoor
open Go.RowKit
set_option linter.unusedVariables false

/-- Some rules' rows are taken, and of the next one some places. -/
def StO (rs : List Rule) (out : List (List Int)) (t s : Nat) (a b : Int) : Prop := ∃ (j k : Nat) (q : Rule) (row : List Int), rs[j]? = some q ∧ out[j]? = some row ∧ (j < t ∨ (j = t ∧ k < s)) ∧ row[k]? = some b ∧ q.left = a
theorem StO.hit {rs : List Rule} {out : List (List Int)} {t s : Nat} {q : Rule} {row : List Int} {c : Int} (hq : rs[t]? = some q) (hr : out[t]? = some row) (hc : row[s]? = some c) (a b : Int) : StO rs out t (s + 1) a b ↔ StO rs out t s a b ∨ (a = q.left ∧ b = c) := by
  constructor
  · rintro ⟨j, k, q', row', h1, h2, h3, h4, h5⟩
    by_cases e : j = t ∧ k = s
    · obtain ⟨rfl, rfl⟩ := e
      rw [hq] at h1
      injection h1 with h1
      subst h1
      rw [hr] at h2
      injection h2 with h2
      subst h2
      rw [hc] at h4
      injection h4 with h4
      exact .inr ⟨h5.symm, h4.symm⟩
    · exact .inl ⟨j, k, q', row', h1, h2, by omega, h4, h5⟩
  · rintro (⟨j, k, q', row', h1, h2, h3, h4, h5⟩ | ⟨rfl, rfl⟩)
    · exact ⟨j, k, q', row', h1, h2, by omega, h4, h5⟩
    · exact ⟨t, s, q, row, hq, hr, by omega, hc, rfl⟩
theorem StO.next {rs : List Rule} {out : List (List Int)} {t : Nat} {row : List Int} (hr : out[t]? = some row) (a b : Int) : StO rs out (t + 1) 0 a b ↔ StO rs out t row.length a b := by
  constructor
  · rintro ⟨j, k, q', row', h1, h2, h3, h4, h5⟩
    refine ⟨j, k, q', row', h1, h2, ?_, h4, h5⟩
    by_cases e : j = t
    · subst e
      rw [hr] at h2
      injection h2 with h2
      subst h2
      have := (List.getElem?_eq_some_iff.1 h4).1
      omega
    · omega
  · rintro ⟨j, k, q', row', h1, h2, h3, h4, h5⟩
    exact ⟨j, k, q', row', h1, h2, by omega, h4, h5⟩
theorem StO.all {g : Gram} {out : List (List Int)} (h : PassL g g.rules out) (a b : Int) : StO g.rules out out.length 0 a b ↔ ∃ q ∈ g.rules, q.left = a ∧ PassN g q b := by
  constructor
  · rintro ⟨j, k, q, row, h1, h2, h3, h4, h5⟩
    exact ⟨q, List.mem_of_getElem? h1, h5, ((h.2 j q row h1 h2).mem b).1 (List.mem_of_getElem? h4)⟩
  · rintro ⟨q, hq, h1, h2⟩
    obtain ⟨j, hj⟩ := List.mem_iff_getElem?.1 hq
    have hjl := (List.getElem?_eq_some_iff.1 hj).1
    obtain ⟨row, hr⟩ := get_some (show j < out.length by rw [h.1]; exact hjl)
    obtain ⟨k, hk⟩ := List.mem_iff_getElem?.1 (((h.2 j q row hj hr).mem b).2 h2)
    exact ⟨j, k, q, row, hj, hr, .inl (by rw [h.1]; exact hjl), hk, h1⟩
theorem passIn_of {g : Gram} {n : Nat} (hv : ValidG g) (hn : g.nons = (n : Int)) : PassIn g n :=
  ⟨fun q hq => by have := hv.rules q hq; omega, fun q hq c ⟨i, h1, _⟩ => by
    have h := (hv.rules q hq).2.2.2 _ (List.mem_of_getElem? h1)
    simp at h
    omega⟩
def LoopL (g : Gram) (n : Nat) (l : List Bool) : Prop := l.length = n ∧ ∀ k, k < n → (l[k]? = some true ↔ Plus (PassE g) k k)
def LpO (rs : List Rule) (out : List (List Int)) (w2 : World) (v i : Value) (wr : World) : Prop :=
  ∃ (t : Nat) (st : List (Int × Int)), t ≤ out.length ∧ i = .int .i64 t ∧ Own wr (fun _ => False) w2.heap.size 111 v st ∧ st.length ≤ 4 * t ∧ (∀ a b, (a, b) ∈ st ↔ StO rs out t 0 a b) ∧ Below w2.heap.size w2 wr
def LpI (rs : List Rule) (out : List (List Int)) (w2 : World) (t m : Nat) (v i : Value) (wr : World) : Prop :=
  ∃ (s : Nat) (st : List (Int × Int)), s ≤ m ∧ i = .int .i64 s ∧ Own wr (fun _ => False) w2.heap.size 111 v st ∧ st.length ≤ 4 * t + s ∧ (∀ a b, (a, b) ∈ st ↔ StO rs out t s a b) ∧ Below w2.heap.size w2 wr
def LpL (g : Gram) (n : Nat) (w3 : World) (v i : Value) (wr : World) : Prop :=
  ∃ (k : Nat) (l : List Bool), k ≤ n ∧ i = .int .i64 k ∧ Own wr (fun _ => False) w3.heap.size 4 v l ∧ l.length = k ∧ (∀ j, j < k → (l[j]? = some true ↔ Plus (PassE g) j j)) ∧ Below w3.heap.size w3 wr

end Go.Proofs.YtjdojogjogenkaaDoor
