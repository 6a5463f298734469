/- Contract: parlkeep2.normals: the grammar of a chain has its normal form. -/
import Derived.Test.YtecofoilghdedaaDoorQNormOf
import Derived.Test.YtecofoilghdedaaDoorQChainK
namespace Go.Proofs.YtecofoilghdedaaDoor
open Go.RowKit
set_option linter.unusedVariables false

theorem chain_ps : psN 1 chainG.rules = [⟨0, 0, [0, 1], true⟩, ⟨0, 1, [2], true⟩] := by decide +kernel
theorem chain_leaf : leafN 1 chainG.rules + 2 = 3 := by decide +kernel
theorem chain_nul {m : Int} (h : NulP (psN 1 chainG.rules) m) : False := by
  induction h with
  | mk p hp _ ih =>
    rw [chain_ps] at hp
    simp only [List.mem_cons, List.not_mem_nil, or_false] at hp
    rcases hp with rfl | rfl
    · exact ih 0 (by simp)
    · exact ih 2 (by simp)
theorem chain_edge {a b : Nat} (h : LeadR 3 (psN 1 chainG.rules) (NulP (psN 1 chainG.rules)) a b) : a = b ∨ b = 2 := by
  rcases h with ⟨h, _⟩ | ⟨p, hp, _, k, h2, h3⟩
  · exact .inl h
  · rw [chain_ps] at hp
    simp only [List.mem_cons, List.not_mem_nil, or_false] at hp
    rcases hp with rfl | rfl
    · rcases h3 with h3 | ⟨c, _, h4⟩
      · cases h3
      · exact (chain_nul h4).elim
    · match k, h2 with
      | 0, h2 => simp at h2; exact .inr (by omega)
theorem chain_leads {a b : Nat} (h : Leads 3 (psN 1 chainG.rules) a b) : a = b ∨ b = 2 := by
  induction h with
  | one b h => exact chain_edge h
  | snoc b c _ hs ih =>
    rcases chain_edge hs with rfl | h
    · exact ih
    · exact .inr h
theorem chain_pair {t : NPair} : (inP 3 t ∧ NPairX 2 1 chainG.rules t.left t.a t.b) ↔ t = ⟨0, 0, 1⟩ := by
  unfold NPairX PairIn
  rw [chain_leaf]
  constructor
  · rintro ⟨h1, p, hp, h2, h3⟩
    rw [chain_ps] at hp
    simp only [List.mem_cons, List.not_mem_nil, or_false] at hp
    obtain ⟨l, a, b⟩ := t
    unfold inP at h1
    dsimp only at h1 h2 h3
    rcases hp with rfl | rfl
    · simp at h3
      have h4 := chain_leads h2
      simp only [NPair.mk.injEq]
      refine ⟨?_, h3.1.symm, h3.2.symm⟩
      dsimp only at h4
      have : ((0 : Int)).toNat = 0 := rfl
      rcases h4 with h4 | h4 <;> omega
    · simp at h3
  · rintro rfl
    exact ⟨by unfold inP; dsimp only; omega, ⟨0, 0, [0, 1], true⟩, by rw [chain_ps]; simp, .one _ (.inl ⟨rfl, by decide⟩), rfl⟩
theorem chain_pairs {xs : List NPair} (h : PairsIs 3 (NPairX 2 1 chainG.rules) xs) : xs.length = 1 := by
  have hm : ∀ t, t ∈ xs ↔ t = ⟨0, 0, 1⟩ := fun t => (h.is t).trans chain_pair
  match xs, h.sorted, hm with
  | [], _, hm => exact absurd ((hm ⟨0, 0, 1⟩).2 rfl) (by simp)
  | [x], _, _ => rfl
  | x :: y :: r, hs, hm =>
    have h1 := (hm x).1 (by simp)
    have h2 := (hm y).1 (by simp)
    have h3 := (List.pairwise_cons.1 hs).1 y (by simp)
    rw [h1, h2] at h3
    unfold ltNP at h3
    dsimp only at h3
    omega

set_option maxRecDepth 100000 in
set_option maxHeartbeats 2000000 in
theorem normals_any (w : World) : Calls Tryd.prog 12 #[] w fun e w' => e = .returned (.bool true) ∧ Below w.heap.size w w' := by
  have HC := Lib.hid chainC
  go_enter Tryd.func12, Tryd.ntmps12
  go_wp2_with fail
  refine (chain_any w).mono ?_
  rintro e w1 ⟨A, rfl, hA, hb1⟩
  have HB1 := Lib.hid hb1
  have HA := Lib.hid hA
  clear hA hb1
  go_wp2_with fail
  refine (normOf_any 2 1 0 chainG.rules A 2 _ w1 HC.out (by decide) (by omega) HA.out (fun b hb => hb.2)).mono ?_
  rintro e w2 ⟨A1, c1, A2, c2, em, xs, ys, rfl, hem, hx, hy, _, _, _, _, _, _, _, _, hb2⟩
  have h3 : (((leafN 1 chainG.rules + 2 : Nat)) : Int) = 3 := by rw [chain_leaf]; rfl
  have hl : xs.length = 1 := chain_pairs (by rw [chain_leaf] at hx; exact hx)
  have he : em = false := by
    cases em
    · rfl
    · exact (chain_nul (hem.1 rfl)).elim
  subst he
  rw [h3, hl]
  have HB2 := Lib.hid (bthen HB1.out hb2 HB1.out.size)
  clear hem hx hy hb2 h3 hl
  go_wp2
  go_ret
  exact ⟨rfl, HB2.out.alloc HB2.out.size _⟩
end Go.Proofs.YtecofoilghdedaaDoor
