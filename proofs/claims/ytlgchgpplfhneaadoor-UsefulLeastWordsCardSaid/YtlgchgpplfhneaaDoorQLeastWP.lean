/- The plain law of UsefulLeastWords: the table's word is the least word. No program is named here. -/
import Derived.Test.YtlgchgpplfhneaaDoorQp1
import Derived.Test.YtlgchgpplfhneaaDoorQRulesIn
namespace Go.Proofs.YtlgchgpplfhneaaDoor
set_option linter.unusedVariables false

theorem term_yield (n : Int) : yieldT ⟨-1, n, []⟩ = [n] := by unfold yieldT; rw [if_pos (by omega)]
theorem kids_len {g : Gram} {L : List Int} (P : Nat → Prop) (hP : ∀ x, P x → ∃ t, vt g t ⟨false, (x : Int)⟩ ∧ ((yieldT t).length : Int) = L.getD x 0) : ∀ (ss : List Sym), (∀ s ∈ ss, 0 ≤ s.n ∧ (s.term = false → P s.n.toNat)) → ∃ ks, vts g ks ss ∧ ((yields ks).length : Int) = sumP L ss
  | [], _ => ⟨[], by unfold vts; trivial, by simp [yields, sumP]⟩
  | ⟨st, sn⟩ :: ss, h => by
    obtain ⟨ks, h1, h2⟩ := kids_len P hP ss (fun s hs => h s (by simp [hs]))
    have h3 := h ⟨st, sn⟩ (by simp)
    cases st
    · obtain ⟨t, t1, t2⟩ := hP _ (h3.2 rfl)
      have h4 : ((sn.toNat : Nat) : Int) = sn := Int.toNat_of_nonneg h3.1
      dsimp only at t1
      rw [h4] at t1
      refine ⟨t :: ks, ?_, ?_⟩
      · unfold vts; exact ⟨t1, h1⟩
      · rw [yields, List.length_append, sumP]
        unfold partR
        simp only [Bool.false_eq_true, if_false]
        dsimp only at t2 ⊢
        push_cast
        omega
    · refine ⟨⟨-1, sn, []⟩ :: ks, ?_, ?_⟩
      · unfold vts
        refine ⟨?_, h1⟩
        unfold vt
        simp
      · rw [yields, List.length_append, sumP, term_yield]
        unfold partR
        simp only [if_true]
        simp
        omega
theorem len_tree {g : Gram} {n : Nat} {L : List Int} (hL : LFix g n L) (hr : RulesIn g n) {x : Nat} (hx : x < n) (h0 : 0 ≤ L.getD x 0) : ∃ t, vt g t ⟨false, (x : Int)⟩ ∧ ((yieldT t).length : Int) = L.getD x 0 := by
  obtain ⟨T, hT⟩ := hL.rank (fun q hq => (hr q hq).2.1)
  have key : ∀ N x, T x < N → x < n → 0 ≤ L.getD x 0 → ∃ t, vt g t ⟨false, (x : Int)⟩ ∧ ((yieldT t).length : Int) = L.getD x 0 := by
    intro N
    induction N with
    | zero => intro x h; omega
    | succ N ih =>
      intro x hlt hx h0
      obtain ⟨q, hq, hql, hs, hT2⟩ := hT x hx h0
      have hnn := (sumR_nonneg L q.right 0 (by omega)).1 (by omega)
      obtain ⟨ks, k1, k2⟩ := kids_len (g := g) (L := L) (fun y => T y < N ∧ y < n ∧ 0 ≤ L.getD y 0) (fun y hy => ih y hy.1 hy.2.1 hy.2.2) q.right (fun s hs' => ⟨((hr q hq).2.2.2 s hs').1, fun ht => ⟨by have := hT2 s hs' ht; omega, ((hr q hq).2.2.2 s hs').2 ht, hnn s hs' ht⟩⟩)
      obtain ⟨i, hi⟩ := List.mem_iff_getElem?.1 hq
      have hle := (hr q hq).1
      refine ⟨⟨(i : Int), 0, ks⟩, ?_, ?_⟩
      · unfold vt
        simp only [Bool.false_eq_true, if_false]
        refine ⟨trivial, by omega, q, by simpa using hi, by omega, k1⟩
      · rw [yieldT, if_neg (by omega), k2]
        have := sumR_sumP L q.right 0 (by omega) hnn
        omega
  exact key (T x + 1) x (by omega) hx h0
theorem len_bound {g : Gram} {n : Nat} {L : List Int} (hL : LFix g n L) (hn : n ≤ 4) (k : Nat) : L.getD k 0 ≤ 256 := by
  have h1 := (hL.shape.get k).2
  have h2 := pw_mono (Nat.le_trans hL.shape.cnt hn)
  have h3 : pw 4 = 256 := by decide
  omega
theorem derW_tree {g : Gram} {k : Nat} {w : List Int} (hl : ∀ q ∈ g.rules, 0 ≤ q.left) (h : DerW g [⟨false, (k : Int)⟩] w) : ∃ t, vt g t ⟨false, (k : Int)⟩ ∧ yieldT t = w := by
  obtain ⟨ks, h1, h2⟩ := trees_of_der h hl
  match ks, h1 with
  | [], h1 => simp [vts] at h1
  | [t], h1 =>
    unfold vts at h1
    exact ⟨t, h1.1, by rw [← h2]; simp [yields]⟩
  | _ :: _ :: _, h1 => simp [vts] at h1
theorem derW_of {g : Gram} {k : Nat} {t : Tree} (h : vt g t ⟨false, (k : Int)⟩) : DerW g [⟨false, (k : Int)⟩] (yieldT t) := by
  have h1 := der_of_trees (g := g) [t] [⟨false, (k : Int)⟩] (by unfold vts; exact ⟨h, by unfold vts; trivial⟩)
  simpa [yields] using h1
theorem noW {g : Gram} {n : Nat} {L : List Int} (hL : LFix g n L) (hr : RulesIn g n) {k : Nat} (h : L.getD k 0 < 0) (w : List Int) : ¬ DerW g [⟨false, (k : Int)⟩] w := fun hd => by
  obtain ⟨t, h1, _⟩ := derW_tree (fun q hq => (hr q hq).1) hd
  have := vt_len hL hr t _ h1 rfl
  dsimp only at this
  rw [Int.toNat_natCast] at this
  omega
theorem leastW {g : Gram} {n : Nat} {L : List Int} {W : List (List Int)} {K : List Bool} (hL : LFix g n L) (hr : RulesIn g n) (hs : SndT g n L W K) (hst : StabT g L W K) {k : Nat} (hk : k < n) (h0 : 0 ≤ L.getD k 0) (h2 : L.getD k 0 ≤ 2000) :
    DerW g [⟨false, (k : Int)⟩] (W.getD k []) ∧ ∀ w, DerW g [⟨false, (k : Int)⟩] w → (W.getD k []).length ≤ w.length ∧ (w.length = (W.getD k []).length → ¬ cmpL w (W.getD k []) < 0) := by
  obtain ⟨t0, t1, t2⟩ := len_tree hL hr hk h0
  have hp : partR L ⟨false, (k : Int)⟩ = L.getD k 0 := by simp [partR]
  obtain ⟨a1, _, _⟩ := least_tree hL hr hs hst t0 ⟨false, (k : Int)⟩ t1 (by rw [hp]; exact t2) (by rw [hp]; exact h2)
  have hK : K.getD k false = true := by rcases a1 with h | h; simp at h; simpa using h
  obtain ⟨t, b1, b2, b3, b4⟩ := hs.known k hK
  refine ⟨by rw [← b2]; exact derW_of b1, fun w hw => ?_⟩
  obtain ⟨u, u1, u2⟩ := derW_tree (fun q hq => (hr q hq).1) hw
  have hge := (tree_ge hL hr u _ u1).1
  rw [hp, u2] at hge
  refine ⟨by omega, fun he hlt => ?_⟩
  obtain ⟨_, c2, _⟩ := least_tree hL hr hs hst u ⟨false, (k : Int)⟩ u1 (by rw [hp, u2]; omega) (by rw [hp]; exact h2)
  rw [u2] at c2
  unfold pW at c2
  simp only [Bool.false_eq_true, if_false, Int.toNat_natCast] at c2
  exact (cmpL_lt _ _).1 hlt c2
theorem der_terms {g : Gram} (hv : ValidG g) {k : Nat} {u : List Int} (h : DerW g [⟨false, (k : Int)⟩] u) : ∀ x ∈ u, 0 ≤ x ∧ x < g.terms := by
  have key : ∀ {ss : List Sym} {v : List Int}, DerW g ss v → (∀ s ∈ ss, s.term = true → 0 ≤ s.n ∧ s.n < g.terms) → ∀ x ∈ v, 0 ≤ x ∧ x < g.terms := by
    intro ss v hd
    induction hd with
    | nil => intro _ x hx; simp at hx
    | term n ss u _ ih =>
      intro hs x hx
      rcases List.mem_cons.1 hx with rfl | hx
      · exact hs ⟨true, x⟩ (by simp) rfl
      · exact ih (fun s h => hs s (by simp [h])) x hx
    | non q ss u v hq _ _ ih1 ih2 =>
      intro hs x hx
      rcases List.mem_append.1 hx with hx | hx
      · refine ih1 (fun s h ht => ?_) x hx
        have := (hv.rules q hq).2.2.2 s h
        rw [ht] at this
        simpa using this
      · exact ih2 (fun s h => hs s (by simp [h])) x hx
  exact key h (fun s hs ht => by simp at hs; subst hs; simp at ht)
end Go.Proofs.YtlgchgpplfhneaaDoor
