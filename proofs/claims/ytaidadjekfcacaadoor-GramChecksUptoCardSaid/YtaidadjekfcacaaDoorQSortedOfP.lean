/- Plain law: the place of each rule in the order is how many come before it: the table that the reference makes. -/
import Derived.Test.YtaidadjekfcacaaDoorQSortedG
namespace Go.Proofs.YtaidadjekfcacaaDoor
open Go.RowKit
set_option linter.unusedVariables false

theorem filter_at {α : Type} (lt : α → α → Bool) : ∀ (zs : List α) (k : Nat) (r : α), zs.Pairwise (fun a b => lt a b = true) → (∀ a ∈ zs, ∀ b ∈ zs, lt a b = true → lt b a = false) → (∀ a ∈ zs, lt a a = false) → zs[k]? = some r → (zs.filter (fun q => lt q r)).length = k
  | [], k, r, _, _, _, h => by simp at h
  | z :: zs, 0, r, hp, ha, hi, h => by
    simp at h
    subst h
    rw [List.pairwise_cons] at hp
    rw [List.length_eq_zero_iff, List.filter_eq_nil_iff]
    intro q hq
    rcases List.mem_cons.1 hq with e | hq'
    · subst e; rw [hi q (by simp)]; decide
    · rw [ha z (by simp) q (by simp [hq']) (hp.1 q hq')]; decide
  | z :: zs, k + 1, r, hp, ha, hi, h => by
    have h' : zs[k]? = some r := by simpa using h
    rw [List.pairwise_cons] at hp
    have ih := filter_at lt zs k r hp.2 (fun a ha' b hb' => ha a (by simp [ha']) b (by simp [hb'])) (fun a ha' => hi a (by simp [ha'])) h'
    have hz : lt z r = true := hp.1 r (List.mem_of_getElem? h')
    simp [List.filter_cons, hz, ih]
/-- How many rules come before r. -/
def cntB (lt : Rule → Rule → Bool) (rs : List Rule) (r : Rule) : Nat := (rs.filter (fun q => lt q r)).length
theorem cntB_snoc {lt : Rule → Rule → Bool} {rs : List Rule} {r q : Rule} {j : Nat} (h : rs[j]? = some q) : cntB lt (rs.take (j + 1)) r = cntB lt (rs.take j) r + if lt q r then 1 else 0 := by
  unfold cntB
  rw [take_snoc h, List.filter_append, List.length_append]
  congr 1
  cases hq : lt q r <;> simp [hq]
theorem cntB_le (lt : Rule → Rule → Bool) (rs : List Rule) (r : Rule) : cntB lt rs r ≤ rs.length := List.length_filter_le _ _
/-- The table on the way: the first m rules are in. -/
def oldM (ys : List Int) (m : Nat) : List Int := ys.map (fun y => if y < (m : Int) then y else 0)
theorem oldM_len (ys : List Int) (m : Nat) : (oldM ys m).length = ys.length := by simp [oldM]
theorem oldM_zero {n : Nat} {ys : List Int} (h : ys.Perm (idxL n)) : oldM ys 0 = List.replicate n 0 := by
  have hl : ys.length = n := by rw [h.length_eq, idxL_len]
  rw [List.eq_replicate_iff]
  refine ⟨by rw [oldM_len, hl], fun b hb => ?_⟩
  obtain ⟨y, hy, rfl⟩ := List.mem_map.1 hb
  obtain ⟨k, _, rfl⟩ := List.mem_map.1 (h.subset hy)
  rw [if_neg (by omega)]
theorem oldM_all {n : Nat} {ys : List Int} (h : ys.Perm (idxL n)) : oldM ys n = ys := by
  unfold oldM
  conv => rhs; rw [← List.map_id ys]
  refine List.map_congr_left fun y hy => ?_
  obtain ⟨k, hk, rfl⟩ := List.mem_map.1 (h.subset hy)
  rw [if_pos (by have := List.mem_range.1 hk; omega)]
  rfl
theorem idxL_nodup (n : Nat) : (idxL n).Nodup := by
  unfold idxL List.Nodup
  rw [List.pairwise_map]
  exact List.nodup_range.imp (fun h e => h (by omega))
theorem oldM_step {n m k : Nat} {ys : List Int} (h : ys.Perm (idxL n)) (hk : ys[k]? = some (m : Int)) : (oldM ys m).set k (m : Int) = oldM ys (m + 1) := by
  have hnd : ys.Nodup := h.nodup_iff.2 (idxL_nodup n)
  apply List.ext_getElem?
  intro i
  unfold oldM
  rw [List.getElem?_set, List.length_map, List.getElem?_map, List.getElem?_map]
  have hkl := (List.getElem?_eq_some_iff.1 hk).1
  by_cases e : k = i
  · subst e
    rw [if_pos rfl, if_pos hkl, hk]
    simp only [Option.map_some]
    rw [if_pos (by omega)]
  · rw [if_neg e]
    cases hi : ys[i]? with
    | none => rfl
    | some y =>
      simp only [Option.map_some]
      have hne : y ≠ (m : Int) := fun e' => by
        subst e'
        exact e (nodup_inj ys k i _ hnd hk hi)
      congr 1
      by_cases hlt : y < (m : Int)
      · rw [if_pos hlt, if_pos (by omega)]
      · rw [if_neg hlt, if_neg (by omega)]
/-- The place of the rule m is the count of those before it. -/
theorem place_cnt {rs : List Rule} {ys : List Int} {m : Nat} {r : Rule} (hp : ys.Perm (idxL rs.length)) (hz : (ys.map (ruleAt rs)).Pairwise (fun a b => ltRule a b = true)) (hzp : (ys.map (ruleAt rs)).Perm rs) (hr : rs[m]? = some r) : ys[cntB ltRule rs r]? = some (m : Int) ∧ cntB ltRule rs r < ys.length := by
  have hm : m < rs.length := (List.getElem?_eq_some_iff.1 hr).1
  have hmem : (m : Int) ∈ ys := hp.symm.subset (List.mem_map.2 ⟨m, List.mem_range.2 hm, rfl⟩)
  obtain ⟨k, hk⟩ := List.getElem?_of_mem hmem
  have hzk : (ys.map (ruleAt rs))[k]? = some r := by rw [List.getElem?_map, hk]; simp only [Option.map_some]; rw [ruleAt_get hr]
  have h := filter_at ltRule (ys.map (ruleAt rs)) k r hz (fun a _ b _ hab => by
    cases hb : ltRule b a with
    | false => rfl
    | true => exact absurd (ltRule_trans hab hb) (by rw [ltRule_irr]; decide)) (fun a _ => ltRule_irr a) hzk
  have e : cntB ltRule rs r = k := by
    unfold cntB
    rw [← h]
    exact (hzp.filter _).length_eq.symm
  rw [e]
  exact ⟨hk, (List.getElem?_eq_some_iff.1 hk).1⟩
end Go.Proofs.YtaidadjekfcacaaDoor
