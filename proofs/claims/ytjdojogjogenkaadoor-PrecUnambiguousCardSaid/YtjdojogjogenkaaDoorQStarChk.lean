/- What closed.Star and closed.Concat make of made grammars is valid. No program is named here. -/
import Derived.Test.YtjdojogjogenkaaDoorQp2
import Derived.Test.YtjdojogjogenkaaDoorQGrammar
import Derived.Test.YtjdojogjogenkaaDoorQw1
namespace Go.Proofs.YtjdojogjogenkaaDoor
set_option linter.unusedVariables false

theorem symIn_ok {t n : Int} {s : Sym} (h : SymOk t n s) : symIn t n s = true := by
  obtain ⟨b, k⟩ := s
  cases b <;> simp_all [SymOk, symIn]
theorem chk_ok {t n : Int} : ∀ (pre rs : List Rule), (pre ++ rs).Nodup → (∀ r ∈ rs, RuleOk t n r) → chkFrom t n pre rs = 0
  | _, [], _, _ => rfl
  | pre, r :: rs, hnd, h => by
    obtain ⟨h1, h2, h3, h4⟩ := h r (by simp)
    unfold chkFrom
    rw [if_neg (by omega), if_neg (by omega), if_neg, if_neg]
    · exact chk_ok (pre ++ [r]) rs (by simpa using hnd) (fun x hx => h x (by simp [hx]))
    · intro ha
      obtain ⟨x, hx, he⟩ := List.any_eq_true.1 ha
      have e := ruleCmp_zero.1 (by simpa using he)
      subst e
      exact (List.nodup_append.1 hnd).2.2 x hx x (by simp) rfl
    · intro ha
      obtain ⟨x, hx, he⟩ := List.any_eq_true.1 ha
      rw [symIn_ok (h4 x hx)] at he
      cases he
theorem made_ok {g : Gram} (h : Made g) : checkI g = 0 := by
  obtain ⟨h1, h2, h3, h4, h5, h6, h7, h8, h9, h10⟩ := h
  unfold checkI
  rw [if_neg (by unfold gramBad; omega), if_neg (by omega)]
  exact chk_ok [] g.rules (by simpa using h9) h10
theorem shS_zero (s : Sym) : shS 0 s = s := by
  obtain ⟨t, n⟩ := s
  cases t
  · simp [shS]
  · simp [shS]
theorem shR_zero (q : Rule) : shR 0 q = q := by
  obtain ⟨l, r⟩ := q
  unfold shR
  have : r.map (shS 0) = r := by
    have e : shS 0 = id := funext fun s => shS_zero s
    rw [e, List.map_id]
  rw [this]
  simp
theorem map_shR_zero (rs : List Rule) : rs.map (shR 0) = rs := by
  have e : shR 0 = id := funext fun s => shR_zero s
  rw [e, List.map_id]
theorem shS_inj {k : Int} {a b : Sym} (h : shS k a = shS k b) : a = b := by
  obtain ⟨at_, an⟩ := a
  obtain ⟨bt, bn⟩ := b
  cases at_ <;> cases bt <;> simp [shS] at h ⊢
  · omega
  · exact h
theorem map_inj {α β : Type} {f : α → β} (hf : ∀ a b, f a = f b → a = b) : ∀ {l m : List α}, l.map f = m.map f → l = m
  | [], [], _ => rfl
  | [], b :: m, h => by simp at h
  | a :: l, [], h => by simp at h
  | a :: l, b :: m, h => by
    rw [List.map_cons, List.map_cons] at h
    injection h with h1 h2
    rw [hf a b h1, map_inj hf h2]
theorem shR_inj {k : Int} {a b : Rule} (h : shR k a = shR k b) : a = b := by
  obtain ⟨al, ar⟩ := a
  obtain ⟨bl, br⟩ := b
  unfold shR at h
  injection h with h1 h2
  dsimp only at h1 h2
  have e1 : al = bl := by omega
  have e2 := map_inj (fun a b => shS_inj) h2
  rw [e1, e2]
theorem nodup_inj {α β : Type} {f : α → β} (hf : ∀ a b, f a = f b → a = b) : ∀ {l : List α}, l.Nodup → (l.map f).Nodup
  | [], _ => by simp
  | a :: l, h => by
    obtain ⟨h1, h2⟩ := List.nodup_cons.1 h
    rw [List.map_cons]
    refine List.nodup_cons.2 ⟨fun hm => ?_, nodup_inj hf h2⟩
    obtain ⟨b, hb, he⟩ := List.mem_map.1 hm
    exact h1 (hf b a he ▸ hb)
theorem shR_ok {t n m k : Int} {q : Rule} (h : RuleOk t n q) (hk : 0 ≤ k) (hm : n + k ≤ m) : RuleOk t m (shR k q) := by
  obtain ⟨h1, h2, h3, h4⟩ := h
  refine ⟨by dsimp only [shR]; omega, by dsimp only [shR]; omega, by dsimp only [shR]; rw [List.length_map]; exact h3, fun s hs => ?_⟩
  obtain ⟨s0, hs0, rfl⟩ := List.mem_map.1 hs
  have := h4 s0 hs0
  obtain ⟨st, sn⟩ := s0
  cases st
  · simp [SymOk, shS] at this ⊢
    omega
  · simpa [SymOk, shS] using this
theorem made_in {g : Gram} (h : Made g) : InN g g.nons := by
  obtain ⟨h1, h2, h3, h4, h5, h6, h7, h8, h9, h10⟩ := h
  intro q hq
  obtain ⟨q1, q2, q3, q4⟩ := h10 q hq
  refine ⟨⟨q1, q2⟩, fun s hs ht => ?_⟩
  have := q4 s hs
  unfold SymOk at this
  rw [ht] at this
  simpa using this
theorem star_check {g : Gram} (h : Made g) : checkI (starG g) = 0 := by
  have hin := made_in h
  obtain ⟨h1, h2, h3, h4, h5, h6, h7, h8, h9, h10⟩ := h
  unfold checkI
  rw [if_neg (by unfold gramBad starG; dsimp only; omega), if_neg (by unfold starG; simp; omega)]
  refine chk_ok [] (starG g).rules ?_ ?_
  · rw [List.nil_append]
    unfold starG
    rw [map_shR_zero]
    refine List.nodup_append.2 ⟨h9, by simp, fun a ha b hb he => ?_⟩
    have := (hin a ha).1
    subst he
    simp at hb
    rcases hb with rfl | rfl
    · dsimp only at this; omega
    · dsimp only at this; omega
  · intro r hr
    unfold starG at hr ⊢
    rcases List.mem_append.1 hr with hm | hm
    · obtain ⟨q, hq, rfl⟩ := List.mem_map.1 hm
      exact shR_ok (h10 q hq) (by omega) (by dsimp only; omega)
    · simp at hm
      rcases hm with rfl | rfl
      · exact ⟨by dsimp only; omega, by dsimp only; omega, by simp, by simp⟩
      · refine ⟨by dsimp only; omega, by dsimp only; omega, by simp, fun s hs => ?_⟩
        simp at hs
        rcases hs with rfl | rfl
        · simp [SymOk]; omega
        · simp [SymOk]; omega
theorem word_ok {t : Int} {ws : List Int} {most : Int} (hl : (ws.length : Int) ≤ most) (hw : ∀ x ∈ ws, 0 ≤ x ∧ x < t) : wordE t ws most = 0 := by
  unfold wordE
  rw [if_neg (by omega), if_neg]
  intro ha
  obtain ⟨x, hx, he⟩ := List.any_eq_true.1 ha
  have := hw x hx
  simp [wordBad] at he
  omega
end Go.Proofs.YtjdojogjogenkaaDoor
