/- Lists of rules on the way of closed.Put. No program is named here. -/
import Derived.Test.YtlgchgpplfhneaaDoorClosedP
import Derived.Test.YtlgchgpplfhneaaDoorRuleB
namespace Go.Proofs.YtlgchgpplfhneaaDoor
set_option linter.unusedVariables false

def putU (R : List Rule) (x m : Int) (t : Nat) : List Rule := (R.take t).map (putR x m) ++ R.drop t
def midS (x m : Int) (s : Nat) (l : List Sym) : List Sym := (l.take s).map (putS x m) ++ l.drop s
def putV (R : List Rule) (x m : Int) (t s : Nat) (r : Rule) : List Rule := (R.take t).map (putR x m) ++ ⟨r.left, midS x m s r.right⟩ :: R.drop (t + 1)
section
variable {R : List Rule} {x m : Int} {t s : Nat} {r : Rule} {z : Sym}
theorem drop_consG {α : Type} {l : List α} {k : Nat} {a : α} (h : l[k]? = some a) : l.drop k = a :: l.drop (k + 1) := by
  obtain ⟨h1, rfl⟩ := List.getElem?_eq_some_iff.1 h
  exact List.drop_eq_getElem_cons h1
theorem take_snocG {α : Type} {l : List α} {k : Nat} {a : α} (h : l[k]? = some a) : l.take (k + 1) = l.take k ++ [a] := by
  rw [List.take_add_one, h]; rfl
theorem putU_zero : putU R x m 0 = R := by simp [putU]
theorem midS_zero (l : List Sym) : midS x m 0 l = l := by simp [midS]
theorem midS_len (l : List Sym) : (midS x m s l).length = l.length := by unfold midS; rw [List.length_append, List.length_map, List.length_take, List.length_drop]; omega
theorem midS_all (l : List Sym) : midS x m l.length l = l.map (putS x m) := by unfold midS; rw [List.take_length, List.drop_length, List.append_nil]
theorem putV_zero (hr : R[t]? = some r) : putV R x m t 0 r = putU R x m t := by
  unfold putV putU
  rw [midS_zero, drop_consG hr]
theorem putV_last (hr : R[t]? = some r) : putV R x m t r.right.length r = putU R x m (t + 1) := by
  unfold putV putU
  rw [midS_all, take_snocG hr, List.map_append]
  simp [putR]
theorem take_len_of {α : Type} {l : List α} {k : Nat} {a : α} (h : l[k]? = some a) : (l.take k).length = k := by
  have := (List.getElem?_eq_some_iff.1 h).1
  rw [List.length_take]; omega
theorem putU_at (hr : R[t]? = some r) : (putU R x m t)[t]? = some r := by
  unfold putU
  rw [drop_consG hr, List.getElem?_append_right (by rw [List.length_map, take_len_of hr]; exact Nat.le_refl _), List.length_map, take_len_of hr]
  simp
theorem putV_at (hr : R[t]? = some r) : (putV R x m t s r)[t]? = some ⟨r.left, midS x m s r.right⟩ := by
  unfold putV
  rw [List.getElem?_append_right (by rw [List.length_map, take_len_of hr]; exact Nat.le_refl _), List.length_map, take_len_of hr]
  simp
theorem midS_at {l : List Sym} (hz : l[s]? = some z) : (midS x m s l)[s]? = some z := by
  unfold midS
  rw [drop_consG hz, List.getElem?_append_right (by rw [List.length_map, take_len_of hz]; exact Nat.le_refl _), List.length_map, take_len_of hz]
  simp
theorem midS_next {l : List Sym} (hz : l[s]? = some z) : midS x m (s + 1) l = (midS x m s l).set s (putS x m z) := by
  unfold midS
  rw [drop_consG hz, take_snocG hz, List.map_append, List.set_append_right _ _ (by rw [List.length_map, take_len_of hz]; exact Nat.le_refl _), List.length_map, take_len_of hz]
  simp
theorem set_same {α : Type} {l : List α} {k : Nat} {a : α} (h : l[k]? = some a) : l.set k a = l := by
  obtain ⟨h1, rfl⟩ := List.getElem?_eq_some_iff.1 h
  exact List.set_getElem_self h1
theorem putV_skip (hz : r.right[s]? = some z) (h : putS x m z = z) : putV R x m t (s + 1) r = putV R x m t s r := by
  unfold putV
  rw [midS_next hz, h, set_same (midS_at hz)]
theorem putV_set (hr : R[t]? = some r) (hz : r.right[s]? = some z) : (putV R x m t s r).set t ⟨r.left, (midS x m s r.right).set s (putS x m z)⟩ = putV R x m t (s + 1) r := by
  unfold putV
  rw [List.set_append_right _ _ (by rw [List.length_map, take_len_of hr]; exact Nat.le_refl _), List.length_map, take_len_of hr, midS_next hz]
  simp
theorem map_at {ys : List RuleB} {q : Rule} {l : List Rule} (h : ys.map RuleB.rule = l) (hq : l[t]? = some q) : ∃ kb, ys[t]? = some ⟨q, kb⟩ := by
  subst h
  rw [List.getElem?_map] at hq
  cases hy : ys[t]? with
  | none => rw [hy] at hq; cases hq
  | some y =>
    rw [hy] at hq
    injection hq with hq
    subst hq
    exact ⟨y.blk, rfl⟩
theorem map_set_rule {ys : List RuleB} {q : RuleB} : (ys.set t q).map RuleB.rule = (ys.map RuleB.rule).set t q.rule := List.map_set
theorem set_blk {ys : List RuleB} {y q : RuleB} {hi : Nat} (h : ∀ y ∈ ys, y.blk < hi) (hy : ys[t]? = some y) (he : q.blk = y.blk) : ∀ z ∈ ys.set t q, z.blk < hi := by
  intro z hz
  rcases List.mem_or_eq_of_mem_set hz with hz | rfl
  · exact h z hz
  · rw [he]; exact h y (List.mem_of_getElem? hy)
end
end Go.Proofs.YtlgchgpplfhneaaDoor
