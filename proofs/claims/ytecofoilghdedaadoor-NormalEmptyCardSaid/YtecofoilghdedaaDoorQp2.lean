/- Plain facts and definitions of this proof, of several texts joined: AccP, RowU. -/
import Derived.Test.YtecofoilghdedaaDoorQp1
import Derived.Lib.TrailingZeros
/- The plain law of core.Ends and core.Reach: tables of masks that are sound and closed under the rules tell which parts of a word the symbols derive. No program is named here. -/
namespace Go.Proofs.YtecofoilghdedaaDoor
set_option linter.unusedVariables false

/-- What a list of symbols becomes. -/
inductive DerW (g : Gram) : List Sym → List Int → Prop where
  | nil : DerW g [] []
  | term (n : Int) (ss : List Sym) (u : List Int) (h : DerW g ss u) : DerW g (⟨true, n⟩ :: ss) (n :: u)
  | non (q : Rule) (ss : List Sym) (u v : List Int) (hq : q ∈ g.rules) (h1 : DerW g q.right u) (h2 : DerW g ss v) : DerW g (⟨false, q.left⟩ :: ss) (u ++ v)

mutual
theorem der_of_tree {g : Gram} : ∀ (t : Tree) (s : Sym), vt g t s → ∀ ss v, DerW g ss v → DerW g (s :: ss) (yieldT t ++ v)
  | ⟨r, t, ks⟩, ⟨st, sn⟩, h, ss, v, hv => by
    unfold vt at h
    cases st
    · rw [if_neg (by simp)] at h
      obtain ⟨_, hr, q, hq, hql, hks⟩ := h
      have hy : yieldT ⟨r, t, ks⟩ = yields ks := by unfold yieldT; rw [if_neg (by omega)]
      rw [hy]
      dsimp only at hql
      subst hql
      exact .non q ss _ v (List.mem_of_getElem? hq) (der_of_trees ks q.right hks) hv
    · rw [if_pos (by simp)] at h
      obtain ⟨hr, ht, _⟩ := h
      dsimp only at ht
      subst ht
      have hy : yieldT ⟨r, t, ks⟩ = [t] := by unfold yieldT; rw [if_pos (by omega)]
      rw [hy]
      exact .term t ss v hv
theorem der_of_trees {g : Gram} : ∀ (ks : List Tree) (ss : List Sym), vts g ks ss → DerW g ss (yields ks)
  | [], [], _ => by unfold yields; exact .nil
  | k :: ks, s :: ss, h => by
    unfold vts at h
    unfold yields
    exact der_of_tree k s h.1 ss _ (der_of_trees ks ss h.2)
  | [], _ :: _, h => by unfold vts at h; exact h.elim
  | _ :: _, [], h => by unfold vts at h; exact h.elim
end
theorem trees_of_der {g : Gram} {ss : List Sym} {u : List Int} (h : DerW g ss u) (hn : ∀ q ∈ g.rules, 0 ≤ q.left) : ∃ ks, vts g ks ss ∧ yields ks = u := by
  induction h with
  | nil => exact ⟨[], by unfold vts; trivial, by unfold yields; rfl⟩
  | term n ss u _ ih =>
    obtain ⟨ks, h1, h2⟩ := ih
    refine ⟨⟨-1, n, []⟩ :: ks, ?_, ?_⟩
    · unfold vts
      refine ⟨?_, h1⟩
      unfold vt
      rw [if_pos (by simp)]
      simp
    · unfold yields
      have hy : yieldT ⟨-1, n, []⟩ = [n] := by unfold yieldT; rw [if_pos (by omega)]
      rw [hy, h2]
      rfl
  | non q ss u v hq _ _ ih1 ih2 =>
    obtain ⟨k1, h1, h2⟩ := ih1
    obtain ⟨k2, h3, h4⟩ := ih2
    obtain ⟨i, hi⟩ := List.mem_iff_getElem?.1 hq
    refine ⟨⟨(i : Int), 0, k1⟩ :: k2, ?_, ?_⟩
    · unfold vts
      refine ⟨?_, h3⟩
      unfold vt
      rw [if_neg (by simp)]
      exact ⟨rfl, by omega, q, by simpa using hi, rfl, h1⟩
    · unfold yields
      have hy : yieldT ⟨(i : Int), 0, k1⟩ = yields k1 := by unfold yieldT; rw [if_neg (by omega)]
      rw [hy, h2, h4]
theorem DerW.append {g : Gram} {ss rr : List Sym} {u v : List Int} (h : DerW g ss u) (k : DerW g rr v) : DerW g (ss ++ rr) (u ++ v) := by
  induction h with
  | nil => exact k
  | term n ss u _ ih => exact .term n _ _ ih
  | non q ss u1 u2 hq h1 _ _ ih => rw [List.append_assoc]; exact .non q _ _ _ hq h1 ih
theorem DerW.split {g : Gram} {ss rr : List Sym} {u : List Int} (h : DerW g (ss ++ rr) u) : ∃ v x, u = v ++ x ∧ DerW g ss v ∧ DerW g rr x := by
  induction ss generalizing u with
  | nil => exact ⟨[], u, rfl, .nil, h⟩
  | cons s ss ih =>
    rw [List.cons_append] at h
    cases h with
    | term n _ u h =>
      obtain ⟨v, x, rfl, h1, h2⟩ := ih h
      exact ⟨n :: v, x, rfl, .term n _ _ h1, h2⟩
    | non q _ u1 u2 hq h1 h2 =>
      obtain ⟨v, x, rfl, h3, h4⟩ := ih h2
      exact ⟨u1 ++ v, x, by rw [List.append_assoc], .non q _ _ _ hq h1 h3, h4⟩
theorem DerW.one {g : Gram} {n : Int} {u : List Int} : DerW g [⟨false, n⟩] u ↔ ∃ q ∈ g.rules, q.left = n ∧ DerW g q.right u := by
  constructor
  · intro h
    cases h with
    | non q _ u1 u2 hq h1 h2 =>
      cases h2
      rw [List.append_nil]
      exact ⟨q, hq, rfl, h1⟩
  · rintro ⟨q, hq, rfl, h⟩
    have := DerW.non q [] u [] hq h .nil
    rwa [List.append_nil] at this
theorem DerW.cons2 {g : Gram} {s : Sym} {ss : List Sym} {u : List Int} : DerW g (s :: ss) u ↔ ∃ v x, u = v ++ x ∧ DerW g [s] v ∧ DerW g ss x := by
  constructor
  · intro h
    exact DerW.split (ss := [s]) h
  · rintro ⟨v, x, rfl, h1, h2⟩
    exact DerW.append h1 h2

/-! ### Masks -/
theorem testBit_low {k a j : Nat} : (2 ^ k * a).testBit j = (decide (k ≤ j) && a.testBit (j - k)) := by
  rw [Nat.mul_comm, Nat.testBit_mul_two_pow]
theorem low_bit {x : Nat} (h0 : x ≠ 0) (h : x < 2 ^ 32) : x.testBit (Lib.ctz 32 x) = true ∧ (∀ j, (x &&& (x - 1)).testBit j = (x.testBit j && decide (j ≠ Lib.ctz 32 x))) ∧ x &&& (x - 1) < x := by
  obtain ⟨m, hm, hk⟩ := Lib.ctzFrom_spec 32 x (by omega) h
  have e : Lib.ctz 32 x = Lib.ctzFrom 32 x := by simp [Lib.ctz, h0]
  rw [e]
  generalize Lib.ctzFrom 32 x = k at hm hk
  have hp : 0 < 2 ^ k := Nat.two_pow_pos k
  have e1 : x - 1 = 2 ^ k * (2 * m) + (2 ^ k - 1) := by
    rw [hm, Nat.mul_add]; omega
  have hx : ∀ j, x.testBit j = (decide (k ≤ j) && (2 * m + 1).testBit (j - k)) := fun j => by rw [hm]; exact testBit_low
  have hy : ∀ j, k ≤ j → (x - 1).testBit j = (2 * m).testBit (j - k) := fun j hj => by
    rw [e1, Nat.testBit_two_pow_mul_add _ (by omega), if_neg (by omega)]
  have hd : ∀ i, (2 * m + 1).testBit (i + 1) = m.testBit i := fun i => by rw [Nat.testBit_succ]; congr 1; omega
  have hd2 : ∀ i, (2 * m).testBit (i + 1) = m.testBit i := fun i => by rw [Nat.testBit_succ]; congr 1; omega
  refine ⟨?_, fun j => ?_, ?_⟩
  · rw [hx]
    simp [Nat.testBit_zero]
  · rw [Nat.testBit_and, hx]
    by_cases hj : k ≤ j
    · rw [hy j hj]
      by_cases he : j = k
      · subst he
        simp [Nat.testBit_zero]
      · obtain ⟨i, rfl⟩ : ∃ i, j = k + (i + 1) := ⟨j - k - 1, by omega⟩
        rw [show k + (i + 1) - k = i + 1 from by omega, hd, hd2]
        simp
    · simp [hj]
  · exact Nat.lt_of_le_of_lt Nat.and_le_right (by omega)

/-! ### The tables -/
def mskAt (T : List (List Nat)) (n i : Nat) : Nat := (T.getD n []).getD i 0
/-- Where the part ends that a symbol derives from a place on. -/
def hopM (w : List Int) (T : List (List Nat)) (s : Sym) (p : Nat) : Nat := if s.term then (if w[p]? = some s.n then 2 ^ (p + 1) else 0) else mskAt T s.n.toNat p
def Hop (w : List Int) (T : List (List Nat)) (s : Sym) (p j : Nat) : Prop := (hopM w T s p).testBit j = true
def Way (w : List Int) (T : List (List Nat)) : List Sym → Nat → Nat → Prop
  | [], i, j => i = j
  | s :: ss, i, j => ∃ k, Hop w T s i k ∧ Way w T ss k j
theorem Way.snoc {w : List Int} {T : List (List Nat)} {s : Sym} : ∀ (ss : List Sym) (i j : Nat), Way w T (ss ++ [s]) i j ↔ ∃ k, Way w T ss i k ∧ Hop w T s k j
  | [], i, j => by
    constructor
    · rintro ⟨k, h, rfl⟩
      exact ⟨i, rfl, h⟩
    · rintro ⟨k, rfl, h⟩
      exact ⟨j, h, rfl⟩
  | r :: ss, i, j => by
    constructor
    · rintro ⟨k, h, h2⟩
      obtain ⟨k2, h3, h4⟩ := (Way.snoc ss k j).1 h2
      exact ⟨k2, ⟨k, h, h3⟩, h4⟩
    · rintro ⟨k, ⟨k2, h1, h2⟩, h3⟩
      exact ⟨k2, h1, (Way.snoc ss k2 j).2 ⟨k, h2, h3⟩⟩
/-- The shape: n rows of masks for places of the word. -/
structure MskS (m n : Nat) (T : List (List Nat)) : Prop where
  len : T.length = n
  rows : ∀ (i : Nat) (row : List Nat), T[i]? = some row → row.length = m + 1
  low : ∀ a i, mskAt T a i < 2 ^ (m + 1)
theorem hop_lt {w : List Int} {T : List (List Nat)} {n : Nat} (h : MskS w.length n T) (s : Sym) {p : Nat} : hopM w T s p < 2 ^ (w.length + 1) := by
  unfold hopM
  split
  · split
    · rename_i h1
      have := (List.getElem?_eq_some_iff.1 h1).1
      exact Nat.pow_lt_pow_right (by omega) (by omega)
    · exact Nat.two_pow_pos _
  · exact h.low _ _
theorem Hop.le {w : List Int} {T : List (List Nat)} {n : Nat} (h : MskS w.length n T) {s : Sym} {p j : Nat} (hh : Hop w T s p j) : j ≤ w.length := by
  apply Nat.le_of_not_lt
  intro hlt
  have h1 : hopM w T s p < 2 ^ j := Nat.lt_of_lt_of_le (hop_lt h s) (Nat.pow_le_pow_right (by omega) (by omega))
  have h2 := Nat.testBit_lt_two_pow h1
  unfold Hop at hh
  rw [h2] at hh
  cases hh
theorem Way.le {w : List Int} {T : List (List Nat)} {n : Nat} (h : MskS w.length n T) : ∀ (ss : List Sym) (i j : Nat), i ≤ w.length → Way w T ss i j → j ≤ w.length
  | [], i, j, hi, hh => by have : i = j := hh; omega
  | s :: ss, i, j, hi, hh => by
    obtain ⟨k, h1, h2⟩ := hh
    exact Way.le h ss k j (h1.le h) h2
def segW (w : List Int) (i j : Nat) : List Int := (w.drop i).take (j - i)
theorem segW_self (w : List Int) (i : Nat) : segW w i i = [] := by simp [segW]
theorem segW_app (w : List Int) {i k j : Nat} (h1 : i ≤ k) (h2 : k ≤ j) : segW w i k ++ segW w k j = segW w i j := by
  unfold segW
  rw [show w.drop k = (w.drop i).drop (k - i) from by rw [List.drop_drop]; congr 1; omega]
  rw [show j - i = (k - i) + (j - k) from by omega, List.take_add]
theorem segW_one (w : List Int) {i : Nat} {x : Int} (h : w[i]? = some x) : segW w i (i + 1) = [x] := by
  unfold segW
  rw [show i + 1 - i = 1 from by omega]
  obtain ⟨hlt, rfl⟩ := List.getElem?_eq_some_iff.1 h
  rw [List.drop_eq_getElem_cons hlt]
  rfl
theorem segW_len (w : List Int) {i j : Nat} (h1 : i ≤ j) (h2 : j ≤ w.length) : (segW w i j).length = j - i := by
  unfold segW
  rw [List.length_take, List.length_drop]
  omega
theorem segW_all (w : List Int) : segW w 0 w.length = w := by simp [segW]
/-- What the tables say is so. -/
def SndM (g : Gram) (w : List Int) (T : List (List Nat)) : Prop := ∀ a i j, i ≤ w.length → (mskAt T a i).testBit j = true → i ≤ j ∧ j ≤ w.length ∧ DerW g [⟨false, (a : Int)⟩] (segW w i j)
/-- A rule at a place is closed. -/
def ClAt (w : List Int) (T : List (List Nat)) (q : Rule) (i : Nat) : Prop := ∀ j, Way w T q.right i j → (mskAt T q.left.toNat i).testBit j = true
def ClM (g : Gram) (w : List Int) (T : List (List Nat)) : Prop := ∀ q ∈ g.rules, ∀ i, i ≤ w.length → ClAt w T q i
theorem way_sound {g : Gram} {w : List Int} {T : List (List Nat)} (h : SndM g w T) : ∀ (ss : List Sym) (i j : Nat), (∀ s ∈ ss, 0 ≤ s.n) → i ≤ w.length → Way w T ss i j → i ≤ j ∧ j ≤ w.length ∧ DerW g ss (segW w i j)
  | [], i, j, _, hi, hh => by
    have e : i = j := hh
    subst e
    exact ⟨Nat.le_refl _, hi, by rw [segW_self]; exact .nil⟩
  | ⟨st, sn⟩ :: ss, i, j, hs, hi, hh => by
    obtain ⟨k, h1, h2⟩ := hh
    have key : i ≤ k ∧ k ≤ w.length ∧ DerW g [⟨st, sn⟩] (segW w i k) := by
      unfold Hop hopM at h1
      cases st
      · rw [if_neg (by simp)] at h1
        have h3 := h sn.toNat i k hi h1
        have h0 := hs ⟨false, sn⟩ (by simp)
        dsimp only at h0 h3
        rw [Int.toNat_of_nonneg h0] at h3
        exact h3
      · rw [if_pos (by simp)] at h1
        dsimp only at h1
        split at h1
        · rename_i h3
          rw [Nat.testBit_two_pow] at h1
          have e : i + 1 = k := by simpa using h1
          subst e
          have := (List.getElem?_eq_some_iff.1 h3).1
          refine ⟨by omega, by omega, ?_⟩
          rw [segW_one w h3]
          exact .term sn [] [] .nil
        · simp at h1
    obtain ⟨k1, k2, k3⟩ := key
    obtain ⟨r1, r2, r3⟩ := way_sound h ss k j (fun s hm => hs s (by simp [hm])) k2 h2
    refine ⟨by omega, r2, ?_⟩
    rw [← segW_app w k1 r1]
    exact DerW.append (ss := [⟨st, sn⟩]) k3 r3
theorem way_complete {g : Gram} {w : List Int} {T : List (List Nat)} (h : ClM g w T) {ss : List Sym} {u : List Int} (hd : DerW g ss u) : ∀ (i j : Nat), i ≤ j → j ≤ w.length → u = segW w i j → Way w T ss i j := by
  induction hd with
  | nil =>
    intro i j h1 h2 h3
    have := congrArg List.length h3
    rw [segW_len w h1 h2] at this
    simp at this
    show i = j
    omega
  | term n ss u _ ih =>
    intro i j h1 h2 h3
    have hl := congrArg List.length h3
    rw [segW_len w h1 h2] at hl
    simp only [List.length_cons] at hl
    have hi : i < w.length := by omega
    have h4 := segW_app w (show i ≤ i + 1 by omega) (show i + 1 ≤ j by omega)
    rw [segW_one w (List.getElem?_eq_getElem hi), ← h3] at h4
    simp only [List.cons_append, List.nil_append, List.cons.injEq] at h4
    refine ⟨i + 1, ?_, ih (i + 1) j (by omega) h2 h4.2.symm⟩
    unfold Hop hopM
    rw [if_pos (by simp)]
    dsimp only
    rw [if_pos (by rw [List.getElem?_eq_getElem hi, h4.1]), Nat.testBit_two_pow]
    simp
  | non q ss u v hq _ _ ih1 ih2 =>
    intro i j h1 h2 h3
    have hl := congrArg List.length h3
    rw [segW_len w h1 h2, List.length_append] at hl
    have h4 := segW_app w (show i ≤ i + u.length by omega) (show i + u.length ≤ j by omega)
    rw [← h3] at h4
    have h5 := List.append_inj h4 (by rw [segW_len w (by omega) (by omega)]; omega)
    have w1 := ih1 i (i + u.length) (by omega) (by omega) h5.1.symm
    refine ⟨i + u.length, ?_, ih2 _ j (by omega) h2 h5.2.symm⟩
    unfold Hop hopM
    rw [if_neg (by simp)]
    exact h q hq i (by omega) _ w1
/-- What Accepts answers. -/
theorem acc_iff {g : Gram} {w : List Int} {T : List (List Nat)} {a : Nat} (hs : SndM g w T) (hc : ClM g w T) : (mskAt T a 0).testBit w.length = true ↔ DerW g [⟨false, (a : Int)⟩] w := by
  constructor
  · intro h
    have h1 := (hs a 0 w.length (by omega) h).2.2
    rwa [segW_all] at h1
  · intro h
    obtain ⟨k, h1, h2⟩ := way_complete hc h 0 w.length (by omega) (Nat.le_refl _) (segW_all w).symm
    have e : k = w.length := h2
    subst e
    unfold Hop hopM at h1
    rw [if_neg (by simp)] at h1
    simpa using h1

/-! ### One step -/
def setM (T : List (List Nat)) (a i x : Nat) : List (List Nat) := T.set a ((T.getD a []).set i x)
theorem mskAt_set {m n : Nat} {T : List (List Nat)} (h : MskS m n T) {a i x : Nat} (ha : a < n) (hi : i ≤ m) (b j : Nat) : mskAt (setM T a i x) b j = if b = a ∧ j = i then x else mskAt T b j := by
  obtain ⟨row, hrow⟩ := get_some (show a < T.length by rw [h.len]; exact ha)
  have hl := h.rows a row hrow
  have e1 : T.getD a [] = row := by rw [List.getD_eq_getElem?_getD, hrow]; rfl
  unfold mskAt setM
  rw [e1, List.getD_eq_getElem?_getD (l := T.set _ _), List.getElem?_set]
  by_cases e : a = b
  · subst e
    rw [if_pos rfl, if_pos (by rw [h.len]; exact ha)]
    simp only [Option.getD_some, true_and]
    rw [List.getD_eq_getElem?_getD, List.getElem?_set, e1, List.getD_eq_getElem?_getD]
    by_cases e2 : i = j
    · subst e2
      rw [if_pos rfl, if_pos (by omega)]
      simp
    · rw [if_neg e2, if_neg (fun h => e2 h.symm)]
  · rw [if_neg e, if_neg (fun h => e h.1.symm), ← List.getD_eq_getElem?_getD]
theorem MskS.set_ {m n : Nat} {T : List (List Nat)} (h : MskS m n T) {a i x : Nat} (ha : a < n) (hi : i ≤ m) (hx : x < 2 ^ (m + 1)) : MskS m n (setM T a i x) := by
  refine ⟨by unfold setM; rw [List.length_set]; exact h.len, fun b row hb => ?_, fun b j => ?_⟩
  · unfold setM at hb
    rw [List.getElem?_set] at hb
    split at hb
    · split at hb
      · simp at hb
        subst hb
        obtain ⟨r2, hr2⟩ := get_some (show a < T.length by rw [h.len]; exact ha)
        rw [List.length_set, hr2]
        exact h.rows a r2 hr2
      · cases hb
    · exact h.rows b row hb
  · rw [mskAt_set h ha hi]
    split
    · exact hx
    · exact h.low b j
theorem or_mono {x y : Nat} {j : Nat} (h : x.testBit j = true) : (x ||| y).testBit j = true := by rw [Nat.testBit_or, h]; rfl
theorem SndM.step {g : Gram} {w : List Int} {n : Nat} {T : List (List Nat)} (h : SndM g w T) (hS : MskS w.length n T) {q : Rule} (hq : q ∈ g.rules) (hq0 : 0 ≤ q.left) (hqn : q.left.toNat < n) (hs : ∀ s ∈ q.right, 0 ≤ s.n) {i x : Nat} (hi : i ≤ w.length) (hx : ∀ j, x.testBit j = true → Way w T q.right i j) :
    SndM g w (setM T q.left.toNat i (mskAt T q.left.toNat i ||| x)) := by
  intro b p j hp hj
  rw [mskAt_set hS hqn hi] at hj
  split at hj
  · rename_i e
    obtain ⟨rfl, rfl⟩ := e
    rw [Nat.testBit_or, Bool.or_eq_true] at hj
    rcases hj with hj | hj
    · exact h _ _ _ hp hj
    · obtain ⟨r1, r2, r3⟩ := way_sound h q.right p j hs hi (hx j hj)
      refine ⟨r1, r2, DerW.one.2 ⟨q, hq, ?_, r3⟩⟩
      omega
  · exact h b p j hp hj
def fuelM (T : List (List Nat)) : Nat := (T.map fun r => (r.map fun v => 8192 - v).sum).sum
theorem fsum_set : ∀ (l : List Nat) (i x y : Nat), l[i]? = some x → y < x → (l.set i y).sum < l.sum
  | [], i, x, y, h, _ => by simp at h
  | a :: l, 0, x, y, h, hy => by simp at h; subst h; simp; omega
  | a :: l, i + 1, x, y, h, hy => by
    have := fsum_set l i x y (by simpa using h) hy
    simp
    exact this
theorem fuel_set {m n : Nat} {T : List (List Nat)} (h : MskS m n T) (hm : m ≤ 12) {a i x : Nat} (ha : a < n) (hi : i ≤ m) (hx : mskAt T a i < x) (hx2 : x < 2 ^ (m + 1)) : fuelM (setM T a i x) < fuelM T := by
  obtain ⟨row, hrow⟩ := get_some (show a < T.length by rw [h.len]; exact ha)
  have hl := h.rows a row hrow
  obtain ⟨v, hv⟩ := get_some (show i < row.length by omega)
  have e1 : T.getD a [] = row := by rw [List.getD_eq_getElem?_getD, hrow]; rfl
  have e2 : mskAt T a i = v := by unfold mskAt; rw [e1, List.getD_eq_getElem?_getD, hv]; rfl
  have h13 : 2 ^ (m + 1) ≤ 2 ^ 13 := Nat.pow_le_pow_right (by omega) (by omega)
  have h14 : (2 : Nat) ^ 13 = 8192 := rfl
  unfold fuelM setM
  rw [e1, List.map_set]
  apply fsum_set _ _ ((row.map fun v => 8192 - v).sum)
  · rw [List.getElem?_map, hrow]; rfl
  · rw [List.map_set]
    apply fsum_set _ _ (8192 - v)
    · rw [List.getElem?_map, hv]; rfl
    · omega
theorem or_lt {m x y : Nat} (hx : x < 2 ^ m) (hy : y < 2 ^ m) : x ||| y < 2 ^ m := Nat.or_lt_two_pow hx hy
/-- x &^ y, y below 2^32. -/
theorem andNot_bit {x y j : Nat} (hy : y < 2 ^ 32) (hj : j < 32) : (x &&& (4294967295 - y)).testBit j = (x.testBit j && !y.testBit j) := by
  rw [Nat.testBit_and, show 4294967295 - y = 2 ^ 32 - (y + 1) from by omega, Nat.testBit_two_pow_sub_succ hy]
  simp [hj]
theorem andNot_zero {x y : Nat} (hx : x < 2 ^ 32) (hy : y < 2 ^ 32) (h : x &&& (4294967295 - y) = 0) : ∀ j, x.testBit j = true → y.testBit j = true := by
  intro j hj
  have hj32 : j < 32 := by
    apply Nat.lt_of_not_le
    intro hle
    have h1 : x < 2 ^ j := Nat.lt_of_lt_of_le hx (Nat.pow_le_pow_right (by omega) hle)
    rw [Nat.testBit_lt_two_pow h1] at hj
    cases hj
  have h2 := andNot_bit (x := x) hy hj32
  rw [h, hj] at h2
  simpa using h2
theorem andNot_pos {x y : Nat} (hx : x < 2 ^ 32) (hy : y < 2 ^ 32) (h : x &&& (4294967295 - y) ≠ 0) : y < y ||| x := by
  apply Nat.lt_of_le_of_ne Nat.left_le_or
  intro e
  apply h
  apply Nat.eq_of_testBit_eq
  intro j
  rcases Nat.lt_or_ge j 32 with hj | hj
  · rw [andNot_bit hy hj, Nat.zero_testBit]
    have h1 : (y ||| x).testBit j = y.testBit j := by rw [← e]
    rw [Nat.testBit_or] at h1
    cases hyj : y.testBit j <;> cases hxj : x.testBit j <;> rw [hyj, hxj] at h1 <;> first | rfl | cases h1
  · rw [Nat.zero_testBit]
    exact Nat.testBit_lt_two_pow (Nat.lt_of_le_of_lt Nat.and_le_left (Nat.lt_of_lt_of_le hx (Nat.pow_le_pow_right (by omega) hj)))
theorem mskAt_init (n m a i : Nat) : mskAt (List.replicate n (List.replicate (m + 1) 0)) a i = 0 := by
  unfold mskAt
  have e : (List.replicate n (List.replicate (m + 1) 0)).getD a [] = if a < n then List.replicate (m + 1) 0 else [] := by
    rw [List.getD_eq_getElem?_getD, List.getElem?_replicate]
    split <;> rfl
  rw [e]
  split
  · rw [List.getD_eq_getElem?_getD, List.getElem?_replicate]
    split <;> rfl
  · rfl
theorem MskS.init (n m : Nat) : MskS m n (List.replicate n (List.replicate (m + 1) 0)) :=
  ⟨by simp, fun i row h => (by
    rw [List.getElem?_replicate] at h
    split at h
    · simp at h
      rw [← h]
      simp
    · cases h), fun a i => (by rw [mskAt_init]; exact Nat.two_pow_pos _)⟩
theorem SndM.init (g : Gram) (w : List Int) (n : Nat) : SndM g w (List.replicate n (List.replicate (w.length + 1) 0)) := fun a i j _ h => by
  rw [mskAt_init] at h
  simp at h
end Go.Proofs.YtecofoilghdedaaDoor

/- Rows of uint32 made one by one into a slice that was made whole: their memory. Written by genrowu.py. -/
namespace Go.Proofs.YtecofoilghdedaaDoor
open Go.RowKit
set_option linter.unusedVariables false

def uSl (b m : Nat) : Value := .slice (some ⟨b, 0, none⟩) m m
def ucells (l : List Nat) : Array Value := (l.map fun x : Nat => Value.int .u32 (x : Int)).toArray
theorem ucells_get {l : List Nat} {i : Nat} {x : Nat} (h : l[i]? = some x) : (ucells l)[i]? = some (.int .u32 (x : Int)) := by simp [ucells, h]
theorem ucells_set (l : List Nat) (i : Nat) (x : Nat) : (ucells l).setIfInBounds i (.int .u32 (x : Int)) = ucells (l.set i x) := by
  apply Array.ext'
  simp [ucells, List.map_set]
theorem infoU32 : (Tryd.prog.info? 113).map (fun i => (i.zero, i.size, i.bytes)) = some (some (.int .u32 0), 1, 4) := by kernel_rfl
theorem infoU32s : (Tryd.prog.info? 114).map (fun i => (i.zero, i.size, i.bytes)) = some (some (.slice none 0 0), 1, 24) := by kernel_rfl
theorem mkU32 (n : Nat) (hn : n ≤ 1000000) (W : World) : (Instr.makeSlice 114 (.int .i64 (n : Int)) (.int .i64 (n : Int))).run Tryd.prog W = .ok (.slice (some ⟨W.heap.size, 0, none⟩) n n) (W.alloc (.cells (ucells (List.replicate n 0)) 113)) := by
  obtain ⟨i0, hi, hz0, hz1, hz2⟩ := info_parts infoU32
  have h := run_makeSlice (P := Tryd.prog) W 114 113 i0 (.int .u32 0) Tryd.underlying114 hi hz0 .i64 .i64 (n : Int) (n : Int) (by omega) (Int.le_refl _) (by rw [hz1]; simp; omega) (by rw [hz2]; omega) (by omega)
  rw [h, hz1]
  simp only [Int.toNat_natCast]
  have e : madeCells (Value.int .u32 0).cells (n * 1) = ucells (List.replicate n 0) := by
    apply Array.ext'
    show (madeCells #[Value.int .u32 0] (n * 1)).toList = _
    rw [toList_madeCells_one]
    simp [ucells]
  rw [e]

structure RowsU (w : World) (bf : Nat) (bs : List Nat) (m n cf : Nat) (f : List (List Nat)) : Prop where
  flen : f.length = n
  blen : bs.length = n
  outer : ∀ (i b : Nat), bs[i]? = some b → w.cell? ⟨bf, i, none⟩ = some (uSl b m)
  rows : ∀ (i b : Nat) (row : List Nat), bs[i]? = some b → f[i]? = some row → Blk' w b 113 (ucells row) ∧ row.length = m
  nodup : (bf :: bs).Nodup
  bflt : bf < w.heap.size
  cap : n ≤ cf ∧ cf ≤ 9223372036854775807
section
variable {w w' : World} {bf m n cf : Nat} {bs : List Nat} {f : List (List Nat)}
theorem RowsU.kept {X : Nat → Prop} (h : RowsU w bf bs m n cf f) (k : Kept X w w') (hx : ∀ b ∈ bf :: bs, ¬ X b) : RowsU w' bf bs m n cf f :=
  ⟨h.flen, h.blen, fun i b hb => (k.cell (p := ⟨bf, i, none⟩) h.bflt (hx _ (by simp))).trans (h.outer i b hb),
    fun i b row hb hr => ⟨(h.rows i b row hb hr).1.kept k (hx _ (by simp [List.mem_of_getElem? hb])), (h.rows i b row hb hr).2⟩, h.nodup, Nat.lt_of_lt_of_le h.bflt k.size, h.cap⟩
theorem RowsU.below (h : RowsU w bf bs m n cf f) (k : Below w.heap.size w w') : RowsU w' bf bs m n cf f :=
  h.kept (Kept.of_below (fun _ => False) k) (fun _ _ h => h)
theorem RowsU.lt (h : RowsU w bf bs m n cf f) : ∀ b ∈ bf :: bs, b < w.heap.size := by
  intro b hb
  rcases List.mem_cons.1 hb with rfl | hb
  · exact h.bflt
  obtain ⟨i, hi, rfl⟩ := List.getElem_of_mem hb
  have h1 : i < f.length := by have := h.blen; have := h.flen; omega
  exact (h.rows i _ _ (List.getElem?_eq_getElem hi) (List.getElem?_eq_getElem h1)).1.lt
theorem RowsU.setRow (h : RowsU w bf bs m n cf f) {i bi : Nat} {row' : List Nat} (hi : bs[i]? = some bi) (k : Kept (fun b => b = bi) w w') (hb : Blk' w' bi 113 (ucells row')) (hl : row'.length = m) : RowsU w' bf bs m n cf (f.set i row') := by
  have hm := List.mem_of_getElem? hi
  have hnd := h.nodup
  simp only [List.nodup_cons] at hnd
  obtain ⟨n6, n7⟩ := hnd
  refine ⟨by simp [h.flen], h.blen, fun j b hb' => (k.cell (p := ⟨bf, j, none⟩) h.bflt (fun e => n6 (by have e' : bf = bi := e; exact e' ▸ hm))).trans (h.outer j b hb'), fun j b row hjb hjr => ?_, h.nodup, Nat.lt_of_lt_of_le h.bflt k.size, h.cap⟩
  rw [List.getElem?_set] at hjr
  split at hjr
  · rename_i e
    subst e
    split at hjr
    · injection hjr with hjr
      subst hjr
      rw [hi] at hjb
      injection hjb with hjb
      subst hjb
      exact ⟨hb, hl⟩
    · cases hjr
  · rename_i e
    have hr := h.rows j b row hjb hjr
    refine ⟨hr.1.kept k (fun e' => ?_), hr.2⟩
    subst e'
    obtain ⟨q1, q2⟩ := List.getElem?_eq_some_iff.1 hi
    obtain ⟨q3, q4⟩ := List.getElem?_eq_some_iff.1 hjb
    exact e ((List.getElem_inj n7).1 (q2.trans q4.symm))
end


/-- Slices of rows: the first ones made, the others nil. -/
def sucells (bs : List Nat) (m n : Nat) : Array Value := ((bs.map fun b => uSl b m) ++ List.replicate (n - bs.length) (Value.slice none 0 0)).toArray
theorem sucells_get {bs : List Nat} {m n i b : Nat} (h : bs[i]? = some b) : (sucells bs m n)[i]? = some (uSl b m) := by
  have hi := (List.getElem?_eq_some_iff.1 h).1
  unfold sucells
  rw [List.getElem?_toArray, List.getElem?_append_left (by simpa using hi)]
  simp [h]
theorem sucells_set {bs : List Nat} {m n b : Nat} (h : bs.length < n) : (sucells bs m n).setIfInBounds bs.length (uSl b m) = sucells (bs ++ [b]) m n := by
  apply Array.ext'
  unfold sucells
  simp only [Array.toList_setIfInBounds]
  apply List.ext_getElem?
  intro j
  rw [List.getElem?_set]
  by_cases e : bs.length = j
  · subst e
    rw [if_pos rfl, if_pos (by simp; omega), List.getElem?_append_left (by simp)]
    simp
  · rw [if_neg e]
    rcases Nat.lt_or_ge j bs.length with hj | hj
    · rw [List.getElem?_append_left (by simpa using hj), List.getElem?_append_left (by simp; omega)]
      rw [List.map_append, List.getElem?_append_left (by simpa using hj)]
    · rw [List.getElem?_append_right (by simpa using hj), List.getElem?_append_right (by simp; omega), List.getElem?_replicate, List.getElem?_replicate]
      simp only [List.length_map, List.length_append, List.length_cons, List.length_nil]
      by_cases hn : j < n
      · rw [if_pos (by omega), if_pos (by omega)]
      · rw [if_neg (by omega), if_neg (by omega)]
theorem sucells_nil {bs : List Nat} {m n i : Nat} (h : bs.length ≤ i) (hi : i < n) : (sucells bs m n)[i]? = some (.slice none 0 0) := by
  unfold sucells
  rw [List.getElem?_toArray, List.getElem?_append_right (by simpa using h), List.getElem?_replicate, if_pos (by simp; omega)]
theorem mkRowsU (n : Nat) (hn : n ≤ 1000000) (W : World) : (Instr.makeSlice 115 (.int .i64 (n : Int)) (.int .i64 (n : Int))).run Tryd.prog W = .ok (.slice (some ⟨W.heap.size, 0, none⟩) n n) (W.alloc (.cells (sucells [] 0 n) 114)) := by
  obtain ⟨i0, hi, hz0, hz1, hz2⟩ := info_parts infoU32s
  have h := run_makeSlice (P := Tryd.prog) W 115 114 i0 (.slice none 0 0) Tryd.underlying115 hi hz0 .i64 .i64 (n : Int) (n : Int) (by omega) (Int.le_refl _) (by rw [hz1]; simp; omega) (by rw [hz2]; omega) (by omega)
  rw [h, hz1]
  simp only [Int.toNat_natCast]
  have e : madeCells (Value.slice none 0 0).cells (n * 1) = sucells [] 0 n := by
    apply Array.ext'
    show (madeCells #[Value.slice none 0 0] (n * 1)).toList = _
    rw [toList_madeCells_one]
    simp [sucells]
  rw [e]
theorem sucells_any (m m' n : Nat) : sucells [] m n = sucells [] m' n := rfl

/-- The first rows are made. -/
structure RowPU (w : World) (bf n m : Nat) (bs : List Nat) (f : List (List Nat)) : Prop where
  flen : f.length = bs.length
  le : bs.length ≤ n
  outer : Blk' w bf 114 (sucells bs m n)
  rows : ∀ (i b : Nat) (row : List Nat), bs[i]? = some b → f[i]? = some row → Blk' w b 113 (ucells row) ∧ row.length = m
  lt : ∀ b ∈ bs, bf < b ∧ b < w.heap.size
  nodup : bs.Nodup
theorem RowPU.start {w : World} {bf n : Nat} (m : Nat) (h : Blk' w bf 114 (sucells [] 0 n)) : RowPU w bf n m [] [] :=
  ⟨rfl, Nat.zero_le _, h, by simp, by simp, List.nodup_nil⟩
theorem RowPU.next {w w' : World} {bf n m R : Nat} {bs : List Nat} {f : List (List Nat)} {row : List Nat} (h : RowPU w bf n m bs f) (hlt : bs.length < n) (k : Kept (fun b => b = bf) w w') (hO : Blk' w' bf 114 (sucells (bs ++ [R]) m n)) (hR : Blk' w' R 113 (ucells row)) (hl : row.length = m) (hR0 : w.heap.size ≤ R) :
    RowPU w' bf n m (bs ++ [R]) (f ++ [row]) := by
  have hbf := h.outer.lt
  refine ⟨by simp [h.flen], by simp; omega, hO, fun i b row' hi hr => ?_, fun b hbm => ?_, ?_⟩
  · rcases Nat.lt_or_ge i bs.length with hlt2 | hge
    · rw [List.getElem?_append_left hlt2] at hi
      rw [List.getElem?_append_left (by rw [h.flen]; exact hlt2)] at hr
      obtain ⟨h1, h2⟩ := h.rows i b row' hi hr
      have hm := h.lt b (List.mem_of_getElem? hi)
      exact ⟨h1.kept k (by omega), h2⟩
    · have e1 : i = bs.length := by have := (List.getElem?_eq_some_iff.1 hi).1; simp at this; omega
      subst e1
      rw [List.getElem?_append_right (Nat.le_refl _)] at hi
      rw [List.getElem?_append_right (by rw [h.flen]; exact Nat.le_refl _), h.flen] at hr
      simp at hi hr
      subst hi; subst hr
      exact ⟨hR, hl⟩
  · have hs := k.size
    rcases List.mem_append.1 hbm with hbm | hbm
    · have := h.lt b hbm
      exact ⟨this.1, by omega⟩
    · simp at hbm
      subst hbm
      exact ⟨by omega, hR.lt⟩
  · rw [List.nodup_append]
    exact ⟨h.nodup, by simp, fun a ha b hb' e => by simp at hb'; subst hb'; have := h.lt a ha; omega⟩
theorem RowPU.done {w : World} {bf n m : Nat} {bs : List Nat} {f : List (List Nat)} (h : RowPU w bf n m bs f) (hn : bs.length = n) (hm : n ≤ 9223372036854775807) : RowsU w bf bs m n n f :=
  ⟨by rw [h.flen, hn], hn, fun i b hib => (h.outer.cell i).trans (sucells_get hib), h.rows, by
    simp only [List.nodup_cons]
    exact ⟨fun hm => by have := h.lt bf hm; omega, h.nodup⟩, h.outer.lt, Nat.le_refl _, hm⟩
end Go.Proofs.YtecofoilghdedaaDoor

