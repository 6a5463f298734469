/- Plain: a nonterminal of the normal form becomes nothing exactly if the grammar derives the empty word from it. No program is named here. -/
import Derived.Test.YtecofoilghdedaaDoorQNormQ
import Derived.Test.YtecofoilghdedaaDoorQp2
namespace Go.Proofs.YtecofoilghdedaaDoor
open Go.RowKit
set_option linter.unusedVariables false

theorem npartL_mem {leaf : Nat} {p : Part} : ∀ (rs : List Rule) (i0 k0 : Nat), p ∈ npartL leaf i0 rs (restL k0 rs) ↔ ∃ k r, rs[k]? = some r ∧ p ∈ npartR leaf (i0 + k) r (fromN (k0 + moreN (rs.take k)) (r.right.length - 2))
  | [], _, _ => by simp [npartL]
  | r :: rs, i0, k0 => by
    simp only [npartL, restL, List.headD_cons, List.tail_cons, List.mem_append, npartL_mem rs]
    constructor
    · rintro (h | ⟨k, q, h1, h2⟩)
      · exact ⟨0, r, rfl, by simpa [moreN] using h⟩
      · refine ⟨k + 1, q, by simpa using h1, ?_⟩
        simp only [List.take_succ_cons, moreN]
        rw [show i0 + (k + 1) = i0 + 1 + k from by omega, show k0 + (r.right.length - 2 + moreN (rs.take k)) = k0 + (r.right.length - 2) + moreN (rs.take k) from by omega]
        exact h2
    · rintro ⟨k, q, h1, h2⟩
      cases k with
      | zero =>
        simp at h1
        subst h1
        exact .inl (by simpa [moreN] using h2)
      | succ k =>
        refine .inr ⟨k, q, by simpa using h1, ?_⟩
        simp only [List.take_succ_cons, moreN] at h2
        rw [show i0 + (k + 1) = i0 + 1 + k from by omega, show k0 + (r.right.length - 2 + moreN (rs.take k)) = k0 + (r.right.length - 2) + moreN (rs.take k) from by omega] at h2
        exact h2
theorem moreN_get {rs : List Rule} {k : Nat} {r : Rule} (h : rs[k]? = some r) : moreN (rs.take (k + 1)) = moreN (rs.take k) + (r.right.length - 2) := by rw [take_snoc h, moreN_snoc]
theorem moreN_mono (rs : List Rule) {i j : Nat} (h : i ≤ j) : moreN (rs.take i) ≤ moreN (rs.take j) := by
  have h1 := moreN_take_le (rs.take j) i
  rw [List.take_take, Nat.min_eq_left h] at h1
  exact h1
/-- The numbers of the new ones are apart. -/
theorem new_apart {rs : List Rule} {i i' j j' : Nat} {r r' : Rule} (h : rs[i]? = some r) (h' : rs[i']? = some r') (hj : j < r.right.length - 2) (hj' : j' < r'.right.length - 2) (he : moreN (rs.take i) + j = moreN (rs.take i') + j') : i = i' ∧ j = j' := by
  rcases Nat.lt_trichotomy i i' with hlt | rfl | hlt
  · have h1 := moreN_mono rs (show i + 1 ≤ i' from hlt)
    rw [moreN_get h] at h1
    omega
  · exact ⟨rfl, by omega⟩
  · have h1 := moreN_mono rs (show i' + 1 ≤ i from hlt)
    rw [moreN_get h'] at h1
    omega

def SymR (n : Nat) (s : Sym) : Prop := 0 ≤ s.n ∧ (s.term = false → s.n < (n : Int))
/-- What a nonterminal of the form stands for: a symbol, or the end of a rule. -/
def DenR (n : Nat) (rs : List Rule) (m : Int) (ss : List Sym) : Prop :=
  (∃ s, SymR n s ∧ m = symN (leafN n rs) s ∧ ss = [s]) ∨ ∃ i r j, rs[i]? = some r ∧ m = ((n + (moreN (rs.take i) + j) : Nat) : Int) ∧ j < r.right.length - 2 ∧ ss = r.right.drop (j + 1)
section
variable {n : Nat} {rs : List Rule} {gt gs : Int}
theorem symN_inj {leaf : Nat} {s t : Sym} (hn : n ≤ leaf) (hs : SymR n s) (ht : SymR n t) (h : symN leaf s = symN leaf t) : s = t := by
  obtain ⟨a, x⟩ := s
  obtain ⟨b, y⟩ := t
  unfold symN at h
  unfold SymR at hs ht
  dsimp only at *
  cases a <;> cases b <;> simp at h hs ht ⊢ <;> omega
theorem symN_new {s : Sym} {i j : Nat} {r : Rule} (hs : SymR n s) (hi : rs[i]? = some r) (hj : j < r.right.length - 2) : symN (leafN n rs) s ≠ ((n + (moreN (rs.take i) + j) : Nat) : Int) := by
  have h1 := moreN_take_le rs (i + 1)
  rw [moreN_get hi] at h1
  unfold symN leafN
  unfold SymR at hs
  split
  · omega
  · rename_i h
    have := hs.2 (by simpa using h)
    omega
theorem derW_all {g : Gram} : ∀ (ss : List Sym), (∀ s ∈ ss, DerW g [s] []) → DerW g ss []
  | [], _ => .nil
  | s :: ss, h => by
    have h1 := h s (by simp)
    have h2 := derW_all ss (fun t ht => h t (by simp [ht]))
    generalize hw : ([] : List Int) = u at h1
    generalize hq : [s] = qs at h1
    cases h1 with
    | nil => cases hq
    | term k ts v hv => cases hw
    | non q ts u' v hq' h3 h4 =>
      injection hq with e1 e2
      subst e1; subst e2
      have hu : u' = [] := by
        cases u' with
        | nil => rfl
        | cons a b => cases hw
      subst hu
      have hv : v = [] := by simpa using hw.symm
      subst hv
      exact .non q ss [] [] hq' h3 h2
theorem derW_split {g : Gram} {s : Sym} {ss : List Sym} (h1 : DerW g [s] []) (h2 : DerW g ss []) : DerW g (s :: ss) [] := by
  generalize hw : ([] : List Int) = u at h1
  generalize hq : [s] = qs at h1
  cases h1 with
  | nil => cases hq
  | term k ts v hv => cases hw
  | non q ts u' v hq' h3 h4 =>
    injection hq with e1 e2
    subst e1; subst e2
    have hu : u' = [] := by
      cases u' with
      | nil => rfl
      | cons a b => cases hw
    subst hu
    have hv : v = [] := by simpa using hw.symm
    subst hv
    exact .non q ss [] [] hq' h3 h2
theorem getD_of {α : Type} {l : List α} {k : Nat} {x d : α} (h : l[k]? = some x) : l.getD k d = x := by rw [List.getD_eq_getElem?_getD, h]; rfl
theorem fromN_getD {k c i : Nat} (h : i < c) : (fromN k c).getD i 0 = ((k + i : Nat) : Int) := getD_of (fromN_get h)
/-- What becomes nothing derives the empty word. -/
theorem nul_der (hr : ∀ r ∈ rs, (0 ≤ r.left ∧ r.left < (n : Int)) ∧ ∀ s ∈ r.right, SymR n s) {m : Int} (h : NulP (psN n rs) m) : ∀ ss, DenR n rs m ss → DerW ⟨gt, (n : Int), gs, rs⟩ ss [] := by
  induction h with
  | mk p hp _ ih =>
    intro ss hd
    obtain ⟨i, r, hi, hpr⟩ := (npartL_mem rs 0 n).1 hp
    have hrr := hr r (List.mem_of_getElem? hi)
    have hmem := List.mem_of_getElem? hi
    have hLn : n ≤ leafN n rs := Nat.le_add_right _ _
    have hleft : SymR n ⟨false, r.left⟩ := ⟨hrr.1.1, fun _ => hrr.1.2⟩
    have key : DerW ⟨gt, (n : Int), gs, rs⟩ r.right [] → ∀ tt, DenR n rs r.left tt → DerW ⟨gt, (n : Int), gs, rs⟩ tt [] := by
      intro hder tt ht
      rcases ht with ⟨s, h1, h2, rfl⟩ | ⟨i', r', j', h1, h2, h3, rfl⟩
      · have e := symN_inj hLn hleft h1 (by rw [← h2]; rfl)
        subst e
        exact .non r [] [] [] hmem hder .nil
      · exact absurd (by rw [← h2]; rfl) (symN_new hleft h1 h3)
    unfold npartR at hpr
    split at hpr
    · simp at hpr
      subst hpr
      refine key (derW_all _ fun s hs => ?_) ss hd
      exact ih (symN (leafN n rs) s) (List.mem_map.2 ⟨s, hs, rfl⟩) [s] (.inl ⟨s, hrr.2 s hs, rfl, rfl⟩)
    · rename_i hlen
      simp only [cutL, List.mem_map, List.mem_range] at hpr
      obtain ⟨j, hj, rfl⟩ := hpr
      dsimp only at ih hd
      obtain ⟨x, hx⟩ := get_some (show j < r.right.length by omega)
      have hxr := hrr.2 x (List.mem_of_getElem? hx)
      have hdj : DerW ⟨gt, (n : Int), gs, rs⟩ [x] [] := ih (symN (leafN n rs) x) (by rw [getD_of hx]; simp) [x] (.inl ⟨x, hxr, rfl, rfl⟩)
      have hrest : DerW ⟨gt, (n : Int), gs, rs⟩ (r.right.drop (j + 1)) [] := by
        by_cases hl : j + 2 = r.right.length
        · obtain ⟨y, hy⟩ := get_some (show j + 1 < r.right.length by omega)
          have hyr := hrr.2 y (List.mem_of_getElem? hy)
          rw [drop_cons hy, List.drop_of_length_le (by omega)]
          exact ih (symN (leafN n rs) y) (by rw [if_pos hl, getD_of hy]; simp) [y] (.inl ⟨y, hyr, rfl, rfl⟩)
        · refine ih (((n + moreN (rs.take i) + j : Nat)) : Int) ?_ _ (.inr ⟨i, r, j, hi, by rw [Nat.add_assoc], by omega, rfl⟩)
          rw [if_neg hl, fromN_getD (by omega)]
          simp
      have hall : DerW ⟨gt, (n : Int), gs, rs⟩ (r.right.drop j) [] := by
        rw [drop_cons hx]
        exact derW_split hdj hrest
      by_cases hj0 : j = 0
      · subst hj0
        rw [if_pos rfl] at hd
        exact key (by simpa using hall) ss hd
      · rw [if_neg hj0, fromN_getD (by omega)] at hd
        rcases hd with ⟨s, h1, h2, rfl⟩ | ⟨i', r', j', h1, h2, h3, rfl⟩
        · exact absurd (by rw [← h2, Nat.add_assoc]) (symN_new h1 hi (show j - 1 < r.right.length - 2 by omega))
        · obtain ⟨rfl, rfl⟩ := new_apart hi h1 (show j - 1 < r.right.length - 2 by omega) h3 (by omega)
          rw [hi] at h1
          injection h1 with h1
          subst h1
          rw [show j - 1 + 1 = j from by omega]
          exact hall
/-- What derives the empty word becomes nothing. -/
theorem der_nul {g : Gram} (hg : g.rules = rs) {ss : List Sym} {w : List Int} (h : DerW g ss w) : w = [] → ∀ s ∈ ss, NulP (psN n rs) (symN (leafN n rs) s) := by
  induction h with
  | nil => intro _ s hs; simp at hs
  | term k ts u _ _ => intro h; cases h
  | non q ts u v hq _ _ ih1 ih2 =>
    intro hw s hs
    have hu : u = [] := (List.append_eq_nil_iff.1 hw).1
    have hv : v = [] := (List.append_eq_nil_iff.1 hw).2
    rcases List.mem_cons.1 hs with rfl | hs
    · have hall := ih1 hu
      rw [hg] at hq
      obtain ⟨i, hi0, hi1⟩ := List.getElem_of_mem hq
      have hi : rs[i]? = some q := by rw [List.getElem?_eq_getElem hi0, hi1]
      have hin : ∀ p ∈ npartR (leafN n rs) i q (fromN (n + moreN (rs.take i)) (q.right.length - 2)), p ∈ psN n rs := fun p hp => (npartL_mem rs 0 n).2 ⟨i, q, hi, by rw [Nat.zero_add]; exact hp⟩
      show NulP (psN n rs) q.left
      by_cases hlen : q.right.length < 3
      · refine .mk ⟨q.left, (i : Int), q.right.map (symN (leafN n rs)), true⟩ (hin _ (by unfold npartR; rw [if_pos hlen]; simp)) (fun m hm => ?_)
        obtain ⟨s', h1, rfl⟩ := List.mem_map.1 hm
        exact hall s' h1
      · have hcut : ∀ d j, j + 2 + d = q.right.length → NulP (psN n rs) (if j = 0 then q.left else (fromN (n + moreN (rs.take i)) (q.right.length - 2)).getD (j - 1) 0) := by
          intro d
          induction d with
          | zero =>
            intro j hj
            have hp : (⟨if j = 0 then q.left else (fromN (n + moreN (rs.take i)) (q.right.length - 2)).getD (j - 1) 0, (i : Int), [symN (leafN n rs) (q.right.getD j ⟨false, 0⟩), if j + 2 = q.right.length then symN (leafN n rs) (q.right.getD (j + 1) ⟨false, 0⟩) else (fromN (n + moreN (rs.take i)) (q.right.length - 2)).getD j 0], decide (j = 0)⟩ : Part) ∈ psN n rs := hin _ (by
              unfold npartR
              rw [if_neg hlen]
              simp only [cutL, List.mem_map, List.mem_range]
              exact ⟨j, by omega, rfl⟩)
            obtain ⟨x, hx⟩ := get_some (show j < q.right.length by omega)
            obtain ⟨y, hy⟩ := get_some (show j + 1 < q.right.length by omega)
            refine .mk _ hp fun m hm => ?_
            rw [if_pos (show j + 2 = q.right.length by omega), getD_of hx, getD_of hy] at hm
            simp only [List.mem_cons, List.not_mem_nil, or_false] at hm
            rcases hm with rfl | rfl
            · exact hall x (List.mem_of_getElem? hx)
            · exact hall y (List.mem_of_getElem? hy)
          | succ d ihd =>
            intro j hj
            have hp : (⟨if j = 0 then q.left else (fromN (n + moreN (rs.take i)) (q.right.length - 2)).getD (j - 1) 0, (i : Int), [symN (leafN n rs) (q.right.getD j ⟨false, 0⟩), if j + 2 = q.right.length then symN (leafN n rs) (q.right.getD (j + 1) ⟨false, 0⟩) else (fromN (n + moreN (rs.take i)) (q.right.length - 2)).getD j 0], decide (j = 0)⟩ : Part) ∈ psN n rs := hin _ (by
              unfold npartR
              rw [if_neg hlen]
              simp only [cutL, List.mem_map, List.mem_range]
              exact ⟨j, by omega, rfl⟩)
            obtain ⟨x, hx⟩ := get_some (show j < q.right.length by omega)
            refine .mk _ hp fun m hm => ?_
            rw [if_neg (show ¬ j + 2 = q.right.length by omega), getD_of hx] at hm
            simp only [List.mem_cons, List.not_mem_nil, or_false] at hm
            rcases hm with rfl | rfl
            · exact hall x (List.mem_of_getElem? hx)
            · have h := ihd (j + 1) (by omega)
              rw [if_neg (by omega), Nat.add_sub_cancel] at h
              exact h
        have h := hcut (q.right.length - 2) 0 (by omega)
        rw [if_pos rfl] at h
        exact h
    · exact ih2 hv s hs
theorem nul_iff {m s : Nat} (hv : ValidG ⟨gt, (n : Int), gs, rs⟩) (hs : s < n) : NulP (psN n rs) (s : Int) ↔ DerW ⟨gt, (n : Int), gs, rs⟩ [⟨false, (s : Int)⟩] [] := by
  constructor
  · intro h
    refine nul_der (fun r hr => ?_) h _ (.inl ⟨⟨false, (s : Int)⟩, ⟨by dsimp only; omega, fun _ => by dsimp only; omega⟩, rfl, rfl⟩)
    have h1 := hv.rules r hr
    refine ⟨⟨h1.1, h1.2.1⟩, fun x hx => ?_⟩
    have h2 := h1.2.2.2 x hx
    refine ⟨h2.1, fun ht => ?_⟩
    have h3 := h2.2
    rw [if_neg (by simp [ht])] at h3
    exact h3
  · intro h
    exact der_nul (g := ⟨gt, (n : Int), gs, rs⟩) rfl h rfl ⟨false, (s : Int)⟩ (by simp)
end
end Go.Proofs.YtecofoilghdedaaDoor
