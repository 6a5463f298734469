/- Plain law: tables of words that are improved until nothing turns hold the least words, and so are one. No program is named here. -/
import Derived.Test.YtpkfalhpkkponaaDoorUsefulP
namespace Go.Proofs.YtpkfalhpkkponaaDoor
open Go.RowKit
set_option linter.unusedVariables false

/-! ### Words in order -/
def cmpL : List Int → List Int → Int
  | [], [] => 0
  | [], _ :: _ => -1
  | _ :: _, [] => 1
  | x :: xs, y :: ys => if x < y then -1 else if y < x then 1 else cmpL xs ys
def leW : List Int → List Int → Prop
  | [], _ => True
  | _ :: _, [] => False
  | x :: xs, y :: ys => x < y ∨ (x = y ∧ leW xs ys)
theorem cmpL_lt : ∀ (a b : List Int), cmpL a b < 0 ↔ ¬ leW b a
  | [], [] => by simp [cmpL, leW]
  | [], _ :: _ => by simp [cmpL, leW]
  | _ :: _, [] => by simp [cmpL, leW]
  | x :: xs, y :: ys => by
    have ih := cmpL_lt xs ys
    unfold cmpL leW
    by_cases h1 : x < y
    · rw [if_pos h1]
      refine ⟨fun _ h => by rcases h with h | ⟨h, _⟩ <;> omega, fun _ => by omega⟩
    · rw [if_neg h1]
      by_cases h2 : y < x
      · rw [if_pos h2]
        exact ⟨fun h => by omega, fun h => absurd (.inl h2) h⟩
      · rw [if_neg h2, ih]
        exact ⟨fun h h3 => by rcases h3 with h3 | ⟨_, h3⟩; omega; exact h h3, fun h h3 => h (.inr ⟨by omega, h3⟩)⟩
theorem leW_refl : ∀ (a : List Int), leW a a
  | [] => trivial
  | x :: xs => .inr ⟨rfl, leW_refl xs⟩
theorem leW_trans : ∀ (a b c : List Int), leW a b → leW b c → leW a c
  | [], _, _, _, _ => trivial
  | _ :: _, [], _, h, _ => h.elim
  | _ :: _, _ :: _, [], _, h => h.elim
  | x :: xs, y :: ys, z :: zs, h1, h2 => by
    rcases h1 with h1 | ⟨rfl, h1⟩
    · rcases h2 with h2 | ⟨rfl, h2⟩
      · exact .inl (by omega)
      · exact .inl h1
    · rcases h2 with h2 | ⟨rfl, h2⟩
      · exact .inl h2
      · exact .inr ⟨rfl, leW_trans xs ys zs h1 h2⟩
theorem leW_anti : ∀ (a b : List Int), leW a b → leW b a → a = b
  | [], [], _, _ => rfl
  | [], _ :: _, _, h => h.elim
  | _ :: _, [], h, _ => h.elim
  | x :: xs, y :: ys, h1, h2 => by
    rcases h1 with h1 | ⟨rfl, h1⟩
    · rcases h2 with h2 | ⟨rfl, h2⟩
      · omega
      · omega
    · rcases h2 with h2 | ⟨_, h2⟩
      · omega
      · rw [leW_anti xs ys h1 h2]
theorem leW_total : ∀ (a b : List Int), leW a b ∨ leW b a
  | [], _ => .inl trivial
  | _ :: _, [] => .inr trivial
  | x :: xs, y :: ys => by
    rcases Int.lt_trichotomy x y with h | h | h
    · exact .inl (.inl h)
    · rcases leW_total xs ys with h1 | h1
      · exact .inl (.inr ⟨h, h1⟩)
      · exact .inr (.inr ⟨h.symm, h1⟩)
    · exact .inr (.inl h)
theorem leW_append : ∀ (a b c d : List Int), a.length = b.length → leW a b → leW c d → leW (a ++ c) (b ++ d)
  | [], [], c, d, _, _, h => h
  | [], _ :: _, _, _, h, _, _ => by simp at h
  | _ :: _, [], _, _, h, _, _ => by simp at h
  | x :: xs, y :: ys, c, d, hl, h1, h2 => by
    rcases h1 with h1 | ⟨rfl, h1⟩
    · exact .inl h1
    · exact .inr ⟨rfl, leW_append xs ys c d (by simpa using hl) h1 h2⟩

/-! ### The tables -/
def pW (W : List (List Int)) (s : Sym) : List Int := if s.term then [s.n] else W.getD s.n.toNat []
def catW (W : List (List Int)) : List Sym → List Int
  | [] => []
  | s :: ss => pW W s ++ catW W ss
def knowsB (K : List Bool) (ss : List Sym) : Bool := ss.all fun s => s.term || K.getD s.n.toNat false
def sumP (L : List Int) : List Sym → Int
  | [] => 0
  | s :: ss => partR L s + sumP L ss
theorem sumR_sumP (L : List Int) : ∀ (ss : List Sym) (a : Int), 0 ≤ a → (∀ s ∈ ss, s.term = false → 0 ≤ L.getD s.n.toNat 0) → sumR L a ss = a + sumP L ss
  | [], a, _, _ => by simp [sumR, sumP]
  | s :: ss, a, ha, h => by
    have hp : 0 ≤ partR L s := by
      unfold partR
      split
      · omega
      · rename_i h1; exact h s (by simp) (by simpa using h1)
    rw [sumR_cons L s ss a ha, if_pos hp, sumR_sumP L ss (a + partR L s) (by omega) (fun x hx => h x (by simp [hx])), sumP]
    omega
theorem LFix.le_sum {g : Gram} {n : Nat} {L : List Int} (h : LFix g n L) (hr : RulesIn g n) {q : Rule} (hq : q ∈ g.rules) (hp : ∀ s ∈ q.right, s.term = false → 0 ≤ L.getD s.n.toNat 0) : 0 ≤ L.getD q.left.toNat 0 ∧ L.getD q.left.toNat 0 ≤ sumP L q.right := by
  have hs := sumR_sumP L q.right 0 (by omega) hp
  have h0 := (sumR_nonneg L q.right 0 (by omega)).2 hp
  have hlt : q.left.toNat < L.length := by rw [h.shape.len]; exact (hr q hq).2.1
  have hf := h.fix q hq
  unfold lenStep at hf
  by_cases hc : 0 ≤ sumR L 0 q.right ∧ (L.getD q.left.toNat 0 < 0 ∨ sumR L 0 q.right < L.getD q.left.toNat 0)
  · rw [if_pos hc] at hf
    have h2 := congrArg (fun z : List Int => z.getD q.left.toNat 0) hf
    rw [List.getD_eq_getElem?_getD, List.getElem?_set_self hlt] at h2
    simp only [Option.getD_some] at h2
    omega
  · omega
mutual
theorem tree_ge {g : Gram} {n : Nat} {L : List Int} (h : LFix g n L) (hr : RulesIn g n) : ∀ (t : Tree) (s : Sym), vt g t s → partR L s ≤ ((yieldT t).length : Int) ∧ (s.term = false → 0 ≤ L.getD s.n.toNat 0)
  | ⟨r, t, ks⟩, ⟨st, sn⟩, hv => by
    unfold vt at hv
    cases st
    · simp only [Bool.false_eq_true, if_false] at hv
      obtain ⟨rfl, hr0, q, hq, hl, hk⟩ := hv
      have hm := List.mem_of_getElem? hq
      have hks := kids_ge h hr ks q.right hk
      have h1 := h.le_sum hr hm hks.2
      rw [yieldT, if_neg (by omega)]
      have h2 := hks.1
      subst hl
      exact ⟨by unfold partR; simp only [Bool.false_eq_true, if_false]; omega, fun _ => h1.1⟩
    · simp only [if_true] at hv
      obtain ⟨rfl, rfl, rfl⟩ := hv
      exact ⟨by simp [partR, yieldT], fun h => by simp at h⟩
theorem kids_ge {g : Gram} {n : Nat} {L : List Int} (h : LFix g n L) (hr : RulesIn g n) : ∀ (ks : List Tree) (ss : List Sym), vts g ks ss → sumP L ss ≤ ((yields ks).length : Int) ∧ ∀ s ∈ ss, s.term = false → 0 ≤ L.getD s.n.toNat 0
  | [], [], _ => by simp [sumP, yields]
  | k :: ks, s :: ss, hv => by
    unfold vts at hv
    have h1 := tree_ge h hr k s hv.1
    have h2 := kids_ge h hr ks ss hv.2
    refine ⟨?_, fun x hx => ?_⟩
    · have := h1.1
      have := h2.1
      simp only [sumP, yields, List.length_append]
      omega
    · rcases List.mem_cons.1 hx with rfl | hx
      · exact h1.2
      · exact h2.2 x hx
  | [], _ :: _, hv => by simp [vts] at hv
  | _ :: _, [], hv => by simp [vts] at hv
end
/-- What is known are words, as short as can be. -/
structure SndT (g : Gram) (n : Nat) (L : List Int) (W : List (List Int)) (K : List Bool) : Prop where
  lw : W.length = n
  lk : K.length = n
  known : ∀ m, K.getD m false = true → ∃ t, vt g t ⟨false, (m : Int)⟩ ∧ yieldT t = W.getD m [] ∧ ((W.getD m []).length : Int) = L.getD m 0 ∧ L.getD m 0 ≤ 2000
  none : ∀ m, K.getD m false = false → W.getD m [] = []
theorem SndT.init (g : Gram) (n : Nat) (L : List Int) : SndT g n L (List.replicate n []) (List.replicate n false) := by
  refine ⟨by simp, by simp, fun m h => ?_, fun m _ => ?_⟩
  · rw [List.getD_eq_getElem?_getD, List.getElem?_replicate] at h
    split at h <;> simp at h
  · rw [List.getD_eq_getElem?_getD, List.getElem?_replicate]
    split <;> simp
def okR (L : List Int) (W : List (List Int)) (K : List Bool) (q : Rule) : Prop := knowsB K q.right = true ∧ ((catW W q.right).length : Int) = L.getD q.left.toNat 0 ∧ ((catW W q.right).length : Int) ≤ 2000
def StabT (g : Gram) (L : List Int) (W : List (List Int)) (K : List Bool) : Prop := ∀ q ∈ g.rules, okR L W K q → K.getD q.left.toNat false = true ∧ leW (W.getD q.left.toNat []) (catW W q.right)
theorem knowsB_cons {K : List Bool} {s : Sym} {ss : List Sym} : knowsB K (s :: ss) = true ↔ (s.term = true ∨ K.getD s.n.toNat false = true) ∧ knowsB K ss = true := by
  unfold knowsB; simp
theorem SndT.cat {g : Gram} {n : Nat} {L : List Int} {W : List (List Int)} {K : List Bool} (h : SndT g n L W K) : ∀ (ss : List Sym), (∀ s ∈ ss, 0 ≤ s.n) → knowsB K ss = true → ((catW W ss).length : Int) = sumP L ss ∧ (∀ s ∈ ss, s.term = false → 0 ≤ L.getD s.n.toNat 0) ∧ ∃ ks, vts g ks ss ∧ yields ks = catW W ss
  | [], _, _ => ⟨by simp [catW, sumP], by simp, [], by simp [vts], by simp [yields, catW]⟩
  | ⟨true, a⟩ :: ss, h0, hk => by
    obtain ⟨h1, h2, ks, h3, h4⟩ := h.cat ss (fun x hx => h0 x (by simp [hx])) (knowsB_cons.1 hk).2
    refine ⟨?_, fun x hx ht => ?_, ⟨-1, a, []⟩ :: ks, ?_, ?_⟩
    · simp only [catW, sumP, List.length_append, pW, partR, if_true, List.length_cons, List.length_nil]; omega
    · rcases List.mem_cons.1 hx with rfl | hx
      · simp at ht
      · exact h2 x hx ht
    · unfold vts; exact ⟨by simp [vt], h3⟩
    · simp only [yields, catW, h4, pW, if_true, yieldT]
      rfl
  | ⟨false, a⟩ :: ss, h0, hk => by
    obtain ⟨hk1, hk2⟩ := knowsB_cons.1 hk
    obtain ⟨h1, h2, ks, h3, h4⟩ := h.cat ss (fun x hx => h0 x (by simp [hx])) hk2
    have ha := h0 ⟨false, a⟩ (by simp)
    dsimp only at ha
    have hK : K.getD a.toNat false = true := by rcases hk1 with h | h; simp at h; exact h
    obtain ⟨t, t1, t2, t3, t4⟩ := h.known a.toNat hK
    rw [show ((a.toNat : Nat) : Int) = a by omega] at t1
    refine ⟨?_, fun x hx ht => ?_, t :: ks, ?_, ?_⟩
    · simp only [catW, sumP, List.length_append, pW, partR, Bool.false_eq_true, if_false]; omega
    · rcases List.mem_cons.1 hx with rfl | hx
      · dsimp only; omega
      · exact h2 x hx ht
    · unfold vts; exact ⟨t1, h3⟩
    · simp only [yields, catW, h4, pW, Bool.false_eq_true, if_false, t2]
theorem getD_set_same {α : Type} {l : List α} {i : Nat} {x d : α} (h : i < l.length) : (l.set i x).getD i d = x := by
  rw [List.getD_eq_getElem?_getD, List.getElem?_set_self h]; rfl
theorem getD_set_other {α : Type} {l : List α} {i j : Nat} {x d : α} (h : i ≠ j) : (l.set i x).getD j d = l.getD j d := by
  rw [List.getD_eq_getElem?_getD, List.getElem?_set_ne h, List.getD_eq_getElem?_getD]
/-- A rule's word is taken. -/
theorem SndT.step {g : Gram} {n : Nat} {L : List Int} {W : List (List Int)} {K : List Bool} (h : SndT g n L W K) (hr : RulesIn g n) {q : Rule} (hq : q ∈ g.rules) (ho : okR L W K q) : SndT g n L (W.set q.left.toNat (catW W q.right)) (K.set q.left.toNat true) := by
  have hin := hr q hq
  refine ⟨by simp [h.lw], by simp [h.lk], fun m hm => ?_, fun m hm => ?_⟩
  · by_cases e : q.left.toNat = m
    · subst e
      rw [getD_set_same (by rw [h.lw]; exact hin.2.1)]
      obtain ⟨h1, h2, ks, h3, h4⟩ := h.cat q.right (fun s hs => (hin.2.2.2 s hs).1) ho.1
      obtain ⟨i, hi⟩ := List.mem_iff_getElem?.1 hq
      refine ⟨⟨(i : Int), 0, ks⟩, ?_, ?_, ho.2.1, by rw [← ho.2.1]; exact ho.2.2⟩
      · unfold vt
        simp only [Bool.false_eq_true, if_false]
        exact ⟨by trivial, by omega, q, by simpa using hi, by have := hin.1; omega, h3⟩
      · rw [yieldT, if_neg (by omega), h4]
    · rw [getD_set_other e] at hm ⊢
      exact h.known m hm
  · by_cases e : q.left.toNat = m
    · subst e
      rw [getD_set_same (by rw [h.lk]; exact hin.2.1)] at hm
      simp at hm
    · rw [getD_set_other e] at hm ⊢
      exact h.none m hm
mutual
/-- What is stable knows every shortest word's nonterminal, and holds none greater. -/
theorem least_tree {g : Gram} {n : Nat} {L : List Int} {W : List (List Int)} {K : List Bool} (hL : LFix g n L) (hr : RulesIn g n) (hs : SndT g n L W K) (hst : StabT g L W K) : ∀ (t : Tree) (s : Sym), vt g t s → ((yieldT t).length : Int) = partR L s → partR L s ≤ 2000 → (s.term = true ∨ K.getD s.n.toNat false = true) ∧ leW (pW W s) (yieldT t) ∧ (pW W s).length = (yieldT t).length
  | ⟨r, t, ks⟩, ⟨st, sn⟩, hv, hl, h2 => by
    unfold vt at hv
    cases st
    · simp only [Bool.false_eq_true, if_false] at hv
      obtain ⟨rfl, hr0, q, hq, hql, hk⟩ := hv
      subst hql
      have hm := List.mem_of_getElem? hq
      have hge := kids_ge hL hr ks q.right hk
      have hle := hL.le_sum hr hm hge.2
      rw [yieldT, if_neg (by omega)] at hl ⊢
      unfold partR at hl h2
      simp only [Bool.false_eq_true, if_false] at hl h2
      have hge1 := hge.1
      obtain ⟨k1, k2, k3⟩ := least_kids hL hr hs hst ks q.right hk (by omega) (by omega)
      obtain ⟨k4, k5⟩ := hst q hm ⟨k1, by rw [k3]; exact hl, by rw [k3]; omega⟩
      refine ⟨.inr k4, ?_, ?_⟩
      · unfold pW
        simp only [Bool.false_eq_true, if_false]
        exact leW_trans _ _ _ k5 k2
      · unfold pW
        simp only [Bool.false_eq_true, if_false]
        obtain ⟨_, _, _, h3, _⟩ := hs.known _ k4
        omega
    · simp only [if_true] at hv
      obtain ⟨rfl, rfl, rfl⟩ := hv
      refine ⟨.inl rfl, ?_, ?_⟩
      · simp [pW, yieldT]; exact leW_refl _
      · simp [pW, yieldT]
theorem least_kids {g : Gram} {n : Nat} {L : List Int} {W : List (List Int)} {K : List Bool} (hL : LFix g n L) (hr : RulesIn g n) (hs : SndT g n L W K) (hst : StabT g L W K) : ∀ (ks : List Tree) (ss : List Sym), vts g ks ss → ((yields ks).length : Int) = sumP L ss → sumP L ss ≤ 2000 → knowsB K ss = true ∧ leW (catW W ss) (yields ks) ∧ (catW W ss).length = (yields ks).length
  | [], [], _, _, _ => ⟨rfl, trivial, rfl⟩
  | k :: ks, s :: ss, hv, hl, h2 => by
    unfold vts at hv
    have g1 := tree_ge hL hr k s hv.1
    have g2 := kids_ge hL hr ks ss hv.2
    simp only [yields, sumP, List.length_append] at hl h2
    have e1 := g1.1
    have e2 := g2.1
    have p0 : 0 ≤ partR L s := by
      unfold partR
      split
      · omega
      · rename_i h; exact g1.2 (by simpa using h)
    have p1 : 0 ≤ sumP L ss := by
      have h3 := sumR_sumP L ss 0 (by omega) g2.2
      have h4 := (sumR_nonneg L ss 0 (by omega)).2 g2.2
      omega
    obtain ⟨a1, a2, a3⟩ := least_tree hL hr hs hst k s hv.1 (by omega) (by omega)
    obtain ⟨b1, b2, b3⟩ := least_kids hL hr hs hst ks ss hv.2 (by omega) (by omega)
    refine ⟨knowsB_cons.2 ⟨a1, b1⟩, leW_append _ _ _ _ a3 a2 b2, ?_⟩
    simp only [catW, yields, List.length_append]
    omega
  | [], _ :: _, hv, _, _ => by simp [vts] at hv
  | _ :: _, [], hv, _, _ => by simp [vts] at hv
end
/-- Two such tables are one. -/
theorem least_one {g : Gram} {n : Nat} {L : List Int} {W W' : List (List Int)} {K K' : List Bool} (hL : LFix g n L) (hr : RulesIn g n) (hs : SndT g n L W K) (hst : StabT g L W K) (hs' : SndT g n L W' K') (hst' : StabT g L W' K') (m : Nat) : W.getD m [] = W'.getD m [] := by
  have key : ∀ {W W' : List (List Int)} {K K' : List Bool}, SndT g n L W K → SndT g n L W' K' → StabT g L W' K' → K.getD m false = true → K'.getD m false = true ∧ leW (W'.getD m []) (W.getD m []) := by
    intro W W' K K' hs hs' hst' hk
    obtain ⟨t, t1, t2, t3, t4⟩ := hs.known m hk
    obtain ⟨a1, a2, _⟩ := least_tree hL hr hs' hst' t ⟨false, (m : Int)⟩ t1 (by rw [t2]; unfold partR; simpa using t3) (by unfold partR; simpa using t4)
    refine ⟨by rcases a1 with h | h; simp at h; simpa using h, ?_⟩
    unfold pW at a2
    simp only [Bool.false_eq_true, if_false, Int.toNat_natCast] at a2
    rw [t2] at a2
    exact a2
  cases hk : K.getD m false
  · cases hk' : K'.getD m false
    · rw [hs.none m hk, hs'.none m hk']
    · have := (key hs' hs hst hk').1
      rw [hk] at this
      simp at this
  · obtain ⟨h1, h2⟩ := key hs hs' hst' hk
    obtain ⟨_, h3⟩ := key hs' hs hst h1
    exact leW_anti _ _ h3 h2

/-! ### The measure -/
def p8 (k : Nat) : Nat := 8 ^ k
theorem p8_succ (k : Nat) : p8 (k + 1) = 8 * p8 k := by unfold p8; rw [Nat.pow_succ]; omega
theorem p8_mono {a b : Nat} (h : a ≤ b) : p8 a ≤ p8 b := Nat.pow_le_pow_right (by omega) h
def rank : List Int → Nat
  | [] => 0
  | x :: xs => x.toNat * p8 xs.length + rank xs
def In8 (l : List Int) : Prop := ∀ x ∈ l, 0 ≤ x ∧ x < 8
theorem rank_lt : ∀ (l : List Int), In8 l → rank l < p8 l.length
  | [], _ => by simp [rank, p8]
  | x :: xs, h => by
    have ih := rank_lt xs (fun y hy => h y (by simp [hy]))
    have hx := h x (by simp)
    simp only [rank, List.length_cons, p8_succ]
    have : x.toNat * p8 xs.length ≤ 7 * p8 xs.length := Nat.mul_le_mul_right _ (by omega)
    omega
theorem rank_less : ∀ (a b : List Int), In8 a → In8 b → a.length = b.length → ¬ leW b a → rank a < rank b
  | [], [], _, _, _, h => absurd trivial h
  | [], _ :: _, _, _, hl, _ => by simp at hl
  | _ :: _, [], _, _, hl, _ => by simp at hl
  | x :: xs, y :: ys, ha, hb, hl, h => by
    have hl' : xs.length = ys.length := by simpa using hl
    have hx := ha x (by simp)
    have hy := hb y (by simp)
    have ra := rank_lt xs (fun z hz => ha z (by simp [hz]))
    simp only [rank]
    rw [hl']
    rw [hl'] at ra
    by_cases e : x = y
    · subst e
      have h2 : ¬ leW ys xs := fun h3 => h (.inr ⟨rfl, h3⟩)
      have := rank_less xs ys (fun z hz => ha z (by simp [hz])) (fun z hz => hb z (by simp [hz])) hl' h2
      omega
    · have h3 : x < y := by
        rcases Int.lt_trichotomy x y with h4 | h4 | h4
        · exact h4
        · exact absurd h4 e
        · exact absurd (.inl h4) h
      have h5 : (x.toNat + 1) * p8 ys.length ≤ y.toNat * p8 ys.length := Nat.mul_le_mul_right _ (by omega)
      rw [Nat.add_mul] at h5
      omega
def msr (B : Nat) : List (List Int) → List Bool → Nat
  | w :: ws, k :: ks => (if k then rank w else B) + msr B ws ks
  | _, _ => 0
theorem msr_set (B : Nat) : ∀ (W : List (List Int)) (K : List Bool) (i : Nat) (u : List Int), i < W.length → W.length = K.length → rank u < (if K.getD i false then rank (W.getD i []) else B) → msr B (W.set i u) (K.set i true) < msr B W K
  | [], _, _, _, h, _, _ => by simp at h
  | _ :: _, [], _, _, _, h, _ => by simp at h
  | w :: ws, k :: ks, 0, u, _, _, h => by
    simp only [List.set_cons_zero, msr, if_true]
    simp at h
    split at h <;> simp_all
  | w :: ws, k :: ks, i + 1, u, hi, hl, h => by
    simp only [List.set_cons_succ, msr]
    have := msr_set B ws ks i u (by simpa using hi) (by simpa using hl) (by simpa using h)
    omega
end Go.Proofs.YtpkfalhpkkponaaDoor
