/- What closed.Put makes of made grammars is valid, and what a tree's word becomes is derived. No program is named here. -/
import Derived.Test.YtlgchgpplfhneaaDoorConcChk
import Derived.Test.YtlgchgpplfhneaaDoorAccP
namespace Go.Proofs.YtlgchgpplfhneaaDoor
set_option linter.unusedVariables false

theorem nodup_inj_on {α β : Type} {f : α → β} : ∀ {l : List α}, l.Nodup → (∀ a ∈ l, ∀ b ∈ l, f a = f b → a = b) → (l.map f).Nodup
  | [], _, _ => by simp
  | a :: l, h, hf => by
    obtain ⟨h1, h2⟩ := List.nodup_cons.1 h
    rw [List.map_cons]
    refine List.nodup_cons.2 ⟨fun hm => ?_, nodup_inj_on h2 (fun a ha b hb => hf a (by simp [ha]) b (by simp [hb]))⟩
    obtain ⟨b, hb, he⟩ := List.mem_map.1 hm
    exact h1 (hf b (by simp [hb]) a (by simp) he ▸ hb)
theorem map_inj_on {α β : Type} {f : α → β} : ∀ {l m : List α}, (∀ a ∈ l, ∀ b ∈ m, f a = f b → a = b) → l.map f = m.map f → l = m
  | [], [], _, _ => rfl
  | [], b :: m, _, h => by simp at h
  | a :: l, [], _, h => by simp at h
  | a :: l, b :: m, hf, h => by
    rw [List.map_cons, List.map_cons] at h
    injection h with h1 h2
    rw [hf a (by simp) b (by simp) h1, map_inj_on (fun a ha b hb => hf a (by simp [ha]) b (by simp [hb])) h2]
theorem putS_inj {x m n : Int} (hm : n ≤ m) {a b : Sym} (ha : NonIn n a) (hb : NonIn n b) (h : putS x m a = putS x m b) : a = b := by
  unfold putS at h
  split at h
  · rename_i e
    split at h
    · rename_i e2; rw [e, e2]
    · rw [← h] at hb
      have := hb rfl
      dsimp only at this
      omega
  · split at h
    · rw [h] at ha
      have := ha rfl
      dsimp only at this
      omega
    · exact h
theorem putR_inj {x m n : Int} (hm : n ≤ m) {a b : Rule} (ha : ∀ s ∈ a.right, NonIn n s) (hb : ∀ s ∈ b.right, NonIn n s) (h : putR x m a = putR x m b) : a = b := by
  obtain ⟨al, ar⟩ := a
  obtain ⟨bl, br⟩ := b
  unfold putR at h
  injection h with h1 h2
  dsimp only at h1 h2 ha hb
  rw [h1, map_inj_on (fun s hs t ht => putS_inj hm (ha s hs) (hb t ht)) h2]
theorem put_check {g h : Gram} {x : Int} (hg : Made g) (hh : Made h) (ht : h.terms = g.terms) : checkI (putG g x h) = 0 := by
  have hin := made_in hg
  have hin2 := made_in hh
  obtain ⟨g1, g2, g3, g4, g5, g6, g7, g8, g9, g10⟩ := hg
  obtain ⟨k1, k2, k3, k4, k5, k6, k7, k8, k9, k10⟩ := hh
  unfold checkI
  rw [if_neg (by unfold gramBad putG; dsimp only; omega), if_neg (by unfold putG; simp; omega)]
  refine chk_ok [] (putG g x h).rules ?_ ?_
  · rw [List.nil_append]
    unfold putG
    rw [map_shR_zero]
    refine List.nodup_append.2 ⟨nodup_inj_on g9 (fun a ha b hb he => putR_inj (n := g.nons) (by omega) (hin a ha).2 (hin b hb).2 he), nodup_inj (fun a b => shR_inj) k9, fun a ha b hb he => ?_⟩
    obtain ⟨q, hq, rfl⟩ := List.mem_map.1 ha
    obtain ⟨p, hp, rfl⟩ := List.mem_map.1 hb
    have h1 := (hin q hq).1
    have h2 := (hin2 p hp).1
    have h3 := congrArg Rule.left he
    unfold putR shR at h3
    dsimp only at h3
    omega
  · intro r hr
    unfold putG at hr ⊢
    rw [map_shR_zero] at hr
    dsimp only at hr ⊢
    rcases List.mem_append.1 hr with hm | hm
    · obtain ⟨q, hq, rfl⟩ := List.mem_map.1 hm
      obtain ⟨q1, q2, q3, q4⟩ := g10 q hq
      refine ⟨q1, by unfold putR; dsimp only; omega, by unfold putR; dsimp only; rw [List.length_map]; exact q3, fun s hs => ?_⟩
      unfold putR at hs
      obtain ⟨z, hz, rfl⟩ := List.mem_map.1 hs
      have h5 := q4 z hz
      unfold putS
      split
      · unfold SymOk; dsimp only; simp; omega
      · obtain ⟨zt, zn⟩ := z
        cases zt
        · simp [SymOk] at h5 ⊢; omega
        · simpa [SymOk] using h5
    · obtain ⟨q, hq, rfl⟩ := List.mem_map.1 hm
      exact shR_ok (ruleOk_more (k10 q hq) ht.symm) (by omega) (by omega)
theorem der_termsG {g : Gram} (hv : ∀ q ∈ g.rules, ∀ s ∈ q.right, s.term = true → 0 ≤ s.n ∧ s.n < g.terms) {ss : List Sym} {v : List Int} (hd : DerW g ss v) : (∀ s ∈ ss, s.term = true → 0 ≤ s.n ∧ s.n < g.terms) → ∀ x ∈ v, 0 ≤ x ∧ x < g.terms := by
  induction hd with
  | nil => intro _ x hx; simp at hx
  | term n ss u _ ih =>
    intro hs x hx
    rcases List.mem_cons.1 hx with rfl | hx
    · exact hs ⟨true, x⟩ (by simp) rfl
    · exact ih (fun s h => hs s (by simp [h])) x hx
  | non q ss u v hq _ _ ih1 ih2 =>
    intro hs x hx
    rcases List.mem_append.1 hx with hx | hx
    · exact ih1 (hv q hq) x hx
    · exact ih2 (fun s h => hs s (by simp [h])) x hx
end Go.Proofs.YtlgchgpplfhneaaDoor
