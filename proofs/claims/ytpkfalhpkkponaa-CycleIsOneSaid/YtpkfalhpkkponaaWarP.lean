/- The reference's closure of a relation: as many rounds as there are places reach every place that a way leads to. No program is named here. -/
import Derived.Test.YtpkfalhpkkponaaFollowM
namespace Go.Proofs.Ytpkfalhpkkponaa
open Go.RowKit
set_option linter.unusedVariables false

def Gt (m : List (List Bool)) (i j : Nat) : Prop := (m.getD i [])[j]? = some true
/-- Row i takes row k, if k stands in it. -/
def warCell (m : List (List Bool)) (i k : Nat) : List (List Bool) :=
  if (m.getD i []).getD k false then m.set i (orRow (m.getD i []) (m.getD k [])) else m
def warRow (m : List (List Bool)) (i : Nat) (ks : List Nat) : List (List Bool) := ks.foldl (fun m k => warCell m i k) m
def warRound (n : Nat) (m : List (List Bool)) (is : List Nat) : List (List Bool) := is.foldl (fun m i => warRow m i (List.range n)) m
def warIter (n : Nat) : Nat → List (List Bool) → List (List Bool)
  | 0, m => m
  | k + 1, m => warRound n (warIter n k m) (List.range n)
/-- A way of steps of m. -/
inductive Wk (m : List (List Bool)) (i : Nat) : Nat → Prop where
  | refl : Wk m i i
  | snoc (k j : Nat) (h : Wk m i k) (hs : Gt m k j) : Wk m i j
theorem Wk.trans {m : List (List Bool)} {i k j : Nat} (h : Wk m i k) (g : Wk m k j) : Wk m i j := by
  induction g with
  | refl => exact h
  | snoc a b _ hs ih => exact .snoc a b ih hs
theorem Wk.one {m : List (List Bool)} {i j : Nat} (h : Gt m i j) : Wk m i j := .snoc i j .refl h

structure WarS (n : Nat) (m : List (List Bool)) : Prop where
  len : m.length = n
  row : ∀ (i : Nat) (r : List Bool), m[i]? = some r → r.length = n
theorem WarS.get {n : Nat} {m : List (List Bool)} (h : WarS n m) {i : Nat} (hi : i < n) : ∃ r, m[i]? = some r ∧ m.getD i [] = r ∧ r.length = n := by
  obtain ⟨r, hr⟩ := get_some (show i < m.length by rw [h.len]; exact hi)
  exact ⟨r, hr, by rw [List.getD_eq_getElem?_getD, hr]; rfl, h.row i r hr⟩
/-- What m0's ways allow, and what is kept. -/
structure WarI (n : Nat) (m0 m : List (List Bool)) : Prop where
  shape : WarS n m
  mono : ∀ i j : Nat, Gt m0 i j → Gt m i j
  sound : ∀ i j : Nat, Gt m i j → Wk m0 i j
theorem warSet_get {n : Nat} {m : List (List Bool)} (h : WarS n m) {i k : Nat} (hi : i < n) (hk : k < n) (a b : Nat) : Gt (m.set i (orRow (m.getD i []) (m.getD k []))) a b ↔ (Gt m a b ∨ (a = i ∧ Gt m k b)) := by
  obtain ⟨r, h1, h2, h3⟩ := h.get hi
  obtain ⟨r', k1, k2, k3⟩ := h.get hk
  unfold Gt
  rw [List.getD_eq_getElem?_getD, List.getElem?_set]
  by_cases e : i = a
  · subst e
    rw [if_pos rfl, if_pos (by rw [h.len]; exact hi), h2, k2]
    simp only [Option.getD_some]
    constructor
    · intro hx
      rcases orRow_or _ _ _ hx with hx | hx
      · exact .inl hx
      · exact .inr ⟨by first | rfl | trivial, hx⟩
    · rintro (hx | ⟨_, hx⟩)
      · exact orRow_left _ _ _ hx
      · exact orRow_right _ _ _ (by omega) hx
  · rw [if_neg e, ← List.getD_eq_getElem?_getD]
    constructor
    · exact fun hx => .inl hx
    · rintro (hx | ⟨hx, _⟩)
      · exact hx
      · exact absurd hx.symm e
theorem gt_getD {m : List (List Bool)} {i k : Nat} : (m.getD i []).getD k false = true ↔ Gt m i k := by
  unfold Gt
  rw [List.getD_eq_getElem?_getD]
  cases (m.getD i [])[k]? <;> simp
theorem WarS.set {n : Nat} {m : List (List Bool)} (h : WarS n m) {i : Nat} {r : List Bool} (hr : r.length = n) : WarS n (m.set i r) :=
  ⟨by rw [List.length_set, h.len], fun j x hx => by
    rw [List.getElem?_set] at hx
    split at hx
    · split at hx
      · simp at hx; rw [← hx]; exact hr
      · simp at hx
    · exact h.row j x hx⟩
theorem WarI.cell {n : Nat} {m0 m : List (List Bool)} (h : WarI n m0 m) {i k : Nat} (hi : i < n) (hk : k < n) : WarI n m0 (warCell m i k) ∧ (∀ a b, Gt m a b → Gt (warCell m i k) a b) ∧ (∀ b, Gt m i k → Gt m k b → Gt (warCell m i k) i b) := by
  unfold warCell
  split
  · rename_i hc
    rw [gt_getD] at hc
    obtain ⟨r, h1, h2, h3⟩ := h.shape.get hi
    refine ⟨⟨h.shape.set (by rw [orRow_len, h2]; exact h3), fun a b hab => (warSet_get h.shape hi hk a b).2 (.inl (h.mono a b hab)), fun a b hab => ?_⟩, fun a b hab => (warSet_get h.shape hi hk a b).2 (.inl hab), fun b _ hb => (warSet_get h.shape hi hk i b).2 (.inr ⟨rfl, hb⟩)⟩
    rcases (warSet_get h.shape hi hk a b).1 hab with h4 | ⟨rfl, h4⟩
    · exact h.sound a b h4
    · exact (h.sound _ _ hc).trans (h.sound _ _ h4)
  · rename_i hc
    rw [gt_getD] at hc
    exact ⟨h, fun _ _ h => h, fun b hb => absurd hb hc⟩
theorem WarI.row {n : Nat} {m0 : List (List Bool)} {i : Nat} (hi : i < n) : ∀ (ks : List Nat) (m : List (List Bool)), WarI n m0 m → (∀ k ∈ ks, k < n) → WarI n m0 (warRow m i ks) ∧ (∀ a b, Gt m a b → Gt (warRow m i ks) a b) ∧ (∀ k ∈ ks, ∀ b, Gt m i k → Gt m0 k b → Gt (warRow m i ks) i b)
  | [], m, h, _ => ⟨h, fun _ _ h => h, by simp⟩
  | k :: ks, m, h, hk => by
    obtain ⟨c1, c2, c3⟩ := h.cell hi (hk k (by simp))
    obtain ⟨i1, i2, i3⟩ := WarI.row hi ks (warCell m i k) c1 (fun x hx => hk x (by simp [hx]))
    refine ⟨i1, fun a b hab => i2 a b (c2 a b hab), fun x hx b hab hb => ?_⟩
    rcases List.mem_cons.1 hx with rfl | hx
    · exact i2 _ _ (c3 b hab (h.mono _ _ hb))
    · exact i3 x hx b (c2 _ _ hab) hb
theorem WarI.round {n : Nat} {m0 : List (List Bool)} : ∀ (is : List Nat) (m : List (List Bool)), WarI n m0 m → (∀ i ∈ is, i < n) → WarI n m0 (warRound n m is) ∧ (∀ a b, Gt m a b → Gt (warRound n m is) a b) ∧ (∀ i ∈ is, ∀ k, k < n → ∀ b, Gt m i k → Gt m0 k b → Gt (warRound n m is) i b)
  | [], m, h, _ => ⟨h, fun _ _ h => h, by simp⟩
  | i :: is, m, h, hi => by
    obtain ⟨c1, c2, c3⟩ := WarI.row (hi i (by simp)) (List.range n) m h (fun k hk => List.mem_range.1 hk)
    obtain ⟨i1, i2, i3⟩ := WarI.round is (warRow m i (List.range n)) c1 (fun x hx => hi x (by simp [hx]))
    refine ⟨i1, fun a b hab => i2 a b (c2 a b hab), fun x hx k hk b hab hb => ?_⟩
    rcases List.mem_cons.1 hx with rfl | hx
    · exact i2 _ _ (c3 k (List.mem_range.2 hk) b hab hb)
    · exact i3 x hx k hk b (c2 _ _ hab) hb
theorem true_count : ∀ (a b : List Bool), a.length = b.length → (∀ j : Nat, a[j]? = some true → b[j]? = some true) → a.count true ≤ b.count true ∧ ((∃ j : Nat, b[j]? = some true ∧ ¬ a[j]? = some true) → a.count true < b.count true)
  | [], [], _, _ => by simp
  | [], _ :: _, h, _ => by simp at h
  | _ :: _, [], h, _ => by simp at h
  | x :: a, y :: b, h, hm => by
    obtain ⟨i1, i2⟩ := true_count a b (by simpa using h) (fun j hj => by have := hm (j + 1) (by simpa using hj); simpa using this)
    have h0 := hm 0
    simp only [List.count_cons]
    cases x
    · cases y
      · refine ⟨by simpa using i1, fun ⟨j, hj, hn⟩ => ?_⟩
        cases j with
        | zero => simp at hj
        | succ j => have := i2 ⟨j, by simpa using hj, by simpa using hn⟩; simpa using this
      · refine ⟨by simp; omega, fun _ => by simp; omega⟩
    · simp at h0
      subst h0
      refine ⟨by simpa using i1, fun ⟨j, hj, hn⟩ => ?_⟩
      cases j with
      | zero => simp at hn
      | succ j => have := i2 ⟨j, by simpa using hj, by simpa using hn⟩; simpa using this
theorem war_iter {n : Nat} {m0 : List (List Bool)} (h : WarS n m0) (hd : ∀ i, i < n → Gt m0 i i) : ∀ k, WarI n m0 (warIter n k m0) ∧ ∀ i, i < n → (∀ j, Wk m0 i j → Gt (warIter n k m0) i j) ∨ k + 1 ≤ ((warIter n k m0).getD i []).count true
  | 0 => by
    refine ⟨⟨h, fun _ _ h => h, fun _ _ h => Wk.one h⟩, fun i hi => .inr ?_⟩
    have h1 : Gt m0 i i := hd i hi
    have := List.count_pos_iff.2 (List.mem_of_getElem? h1)
    show 0 + 1 ≤ (m0.getD i []).count true
    omega
  | k + 1 => by
    obtain ⟨h1, h2⟩ := war_iter h hd k
    obtain ⟨r1, r2, r3⟩ := WarI.round (List.range n) (warIter n k m0) h1 (fun i hi => List.mem_range.1 hi)
    refine ⟨r1, fun i hi => ?_⟩
    rcases h2 i hi with h3 | h3
    · exact .inl fun j hj => r2 _ _ (h3 j hj)
    · by_cases hc : ∀ a b, Gt (warIter n k m0) i a → Gt m0 a b → Gt (warIter n k m0) i b
      · refine .inl fun j hj => r2 _ _ ?_
        induction hj with
        | refl => exact h1.mono _ _ (hd i hi)
        | snoc a b _ hs ih => exact hc a b ih hs
      · refine .inr ?_
        have ⟨a, b, ha, hb, hn⟩ : ∃ a b, Gt (warIter n k m0) i a ∧ Gt m0 a b ∧ ¬ Gt (warIter n k m0) i b := by
          false_or_by_contra
          rename_i hx
          exact hc fun a b ha hb => by
            false_or_by_contra
            rename_i hy
            exact hx ⟨a, b, ha, hb, hy⟩
        have han : a < n := by
          obtain ⟨r, g1, g2, g3⟩ := h1.shape.get hi
          unfold Gt at ha
          rw [g2] at ha
          have := (List.getElem?_eq_some_iff.1 ha).1
          omega
        have hnew := r3 i (List.mem_range.2 hi) a han b ha hb
        obtain ⟨r, g1, g2, g3⟩ := h1.shape.get hi
        obtain ⟨r', k1, k2, k3⟩ := r1.shape.get hi
        have hlt := (true_count r r' (by omega) (fun j hj => by have := r2 i j (by unfold Gt; rw [g2]; exact hj); unfold Gt at this; rw [k2] at this; exact this)).2 ⟨b, by unfold Gt at hnew; rw [k2] at hnew; exact hnew, by unfold Gt at hn; rw [g2] at hn; exact hn⟩
        rw [g2] at h3
        show k + 1 + 1 ≤ ((warRound n (warIter n k m0) (List.range n)).getD i []).count true
        rw [k2]
        omega
/-- As many rounds as there are places: all ways. -/
theorem war_end {n : Nat} {m0 : List (List Bool)} (h : WarS n m0) (hd : ∀ i, i < n → Gt m0 i i) : WarS n (warIter n n m0) ∧ ∀ i, i < n → ∀ j, Gt (warIter n n m0) i j ↔ Wk m0 i j := by
  obtain ⟨h1, h2⟩ := war_iter h hd n
  refine ⟨h1.shape, fun i hi j => ⟨h1.sound i j, fun hj => ?_⟩⟩
  rcases h2 i hi with h3 | h3
  · exact h3 j hj
  · obtain ⟨r, g1, g2, g3⟩ := h1.shape.get hi
    rw [g2] at h3
    have := List.count_le_length (a := true) (l := r)
    omega
end Go.Proofs.Ytpkfalhpkkponaa
