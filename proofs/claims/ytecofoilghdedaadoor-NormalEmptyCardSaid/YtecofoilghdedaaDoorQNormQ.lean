/- The parts of a valid grammar's normal form: their numbers lie within the form. No program is named here. -/
import Derived.Test.YtecofoilghdedaaDoorQp1
import Derived.Test.YtecofoilghdedaaDoorQValid
namespace Go.Proofs.YtecofoilghdedaaDoor
open Go.RowKit
set_option linter.unusedVariables false

def leafN (n : Nat) (rs : List Rule) : Nat := n + moreN rs
def psN (n : Nat) (rs : List Rule) : List Part := npartL (leafN n rs) 0 rs (restL n rs)
theorem cutL_ok {leaf i n N k : Nat} {r : Rule} {rest : List Int} (hl : 0 ≤ r.left ∧ r.left < (N : Int)) (hk : k + 1 ≤ r.right.length) (hr : ∀ x ∈ rest, 0 ≤ x ∧ x < (N : Int)) (hn : rest.length = r.right.length - 2)
    (hs : ∀ s ∈ r.right, 0 ≤ symN leaf s ∧ symN leaf s < (N : Int)) : ∀ p ∈ cutL leaf i r rest k, PartOk N p := by
  intro p hp
  simp only [cutL, List.mem_map, List.mem_range] at hp
  obtain ⟨j, hj, rfl⟩ := hp
  have hget : ∀ m, m < rest.length → 0 ≤ rest.getD m 0 ∧ rest.getD m 0 < (N : Int) := fun m hm => by
    rw [List.getD_eq_getElem?_getD, List.getElem?_eq_getElem hm]
    exact hr _ (List.getElem_mem hm)
  have hsym : ∀ m, m < r.right.length → 0 ≤ symN leaf (r.right.getD m ⟨false, 0⟩) ∧ symN leaf (r.right.getD m ⟨false, 0⟩) < (N : Int) := fun m hm => by
    rw [List.getD_eq_getElem?_getD, List.getElem?_eq_getElem hm]
    exact hs _ (List.getElem_mem hm)
  refine ⟨?_, by simp, fun m hm => ?_⟩
  · dsimp only
    split
    · exact hl
    · exact hget _ (by omega)
  · simp only [List.mem_cons, List.not_mem_nil, or_false] at hm
    rcases hm with rfl | rfl
    · exact hsym j (by omega)
    · split
      · exact hsym _ (by omega)
      · exact hget _ (by omega)
theorem npartR_ok {leaf i N : Nat} {r : Rule} {rest : List Int} (hl : 0 ≤ r.left ∧ r.left < (N : Int)) (hr : ∀ x ∈ rest, 0 ≤ x ∧ x < (N : Int)) (hn : rest.length = r.right.length - 2)
    (hs : ∀ s ∈ r.right, 0 ≤ symN leaf s ∧ symN leaf s < (N : Int)) : ∀ p ∈ npartR leaf i r rest, PartOk N p := by
  unfold npartR
  split
  · intro p hp
    simp at hp
    subst hp
    refine ⟨hl, by simp; omega, fun m hm => ?_⟩
    obtain ⟨s, h1, rfl⟩ := List.mem_map.1 hm
    exact hs s h1
  · exact cutL_ok (n := 0) hl (by omega) hr hn hs
theorem npartR_len (leaf i : Nat) (r : Rule) (rest : List Int) (h : r.right.length ≤ 4) : (npartR leaf i r rest).length ≤ 3 := by
  unfold npartR
  split
  · simp
  · rw [cutL_len]; omega
theorem npartL_len : ∀ (rs : List Rule) (leaf i : Nat) (xs : List (List Int)), (∀ r ∈ rs, r.right.length ≤ 4) → (npartL leaf i rs xs).length ≤ 3 * rs.length
  | [], _, _, _, _ => by simp [npartL]
  | r :: rs, leaf, i, xs, h => by
    have h1 := npartR_len leaf i r (xs.headD []) (h r (by simp))
    have h2 := npartL_len rs leaf (i + 1) xs.tail (fun r hr => h r (by simp [hr]))
    simp only [npartL, List.length_append, List.length_cons]
    omega
theorem npartL_ok {leaf N : Nat} : ∀ (rs : List Rule) (i k : Nat), k + moreN rs ≤ N → (∀ r ∈ rs, 0 ≤ r.left ∧ r.left < (N : Int)) → (∀ r ∈ rs, ∀ s ∈ r.right, 0 ≤ symN leaf s ∧ symN leaf s < (N : Int)) → ∀ p ∈ npartL leaf i rs (restL k rs), PartOk N p
  | [], _, _, _, _, _, p, hp => by simp [npartL] at hp
  | r :: rs, i, k, hk, hl, hs, p, hp => by
    simp only [npartL, restL, List.headD_cons, List.tail_cons, List.mem_append] at hp
    simp only [moreN] at hk
    rcases hp with hp | hp
    · refine npartR_ok (hl r (by simp)) (fun x hx => ?_) (fromN_len _ _) (hs r (by simp)) p hp
      simp only [fromN, List.mem_map, List.mem_range] at hx
      obtain ⟨a, ha, rfl⟩ := hx
      omega
    · exact npartL_ok rs (i + 1) (k + (r.right.length - 2)) (by omega) (fun r hr => hl r (by simp [hr])) (fun r hr => hs r (by simp [hr])) p hp
theorem psN_ok {g : Gram} {m n : Nat} (hv : ValidG g) (hm : g.terms = (m : Int)) (hn : g.nons = (n : Int)) : ∀ p ∈ psN n g.rules, PartOk (leafN n g.rules + m) p := by
  unfold psN
  refine npartL_ok g.rules 0 n (by unfold leafN; omega) (fun r hr => ?_) (fun r hr s hs => ?_)
  · have h := hv.rules r hr
    unfold leafN
    omega
  · have h := (hv.rules r hr).2.2.2 s hs
    unfold symN leafN
    cases hst : s.term <;> simp [hst] at h ⊢ <;> omega
theorem psN_len {g : Gram} (hv : ValidG g) (n : Nat) : (psN n g.rules).length ≤ 96 := by
  have h := npartL_len g.rules (leafN n g.rules) 0 (restL n g.rules) (fun r hr => (hv.rules r hr).2.2.1)
  have := hv.len
  unfold psN
  omega
theorem leafN_le {g : Gram} {n : Nat} (hv : ValidG g) (hn : g.nons = (n : Int)) : leafN n g.rules ≤ 74 := by
  have h := moreN_le (fun r hr => (hv.rules r hr).2.2.1)
  have := hv.len
  have := hv.n10
  unfold leafN
  omega
end Go.Proofs.YtecofoilghdedaaDoor
