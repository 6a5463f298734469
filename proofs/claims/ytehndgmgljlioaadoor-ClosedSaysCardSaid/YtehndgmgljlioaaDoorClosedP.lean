/- The plain laws of closed.Star, Concat and Put: which words the combined grammars have. No program is named here. -/
import Derived.Test.YtehndgmgljlioaaDoorAccP
namespace Go.Proofs.YtehndgmgljlioaaDoor
set_option linter.unusedVariables false

/-- Symbols go over into symbols, terminals into words. -/
theorem DerW.subst {g g' : Gram} (f : Sym → Sym) (σ : Int → List Int) (hT : ∀ n, DerW g' [f ⟨true, n⟩] (σ n)) (hN : ∀ q ∈ g.rules, ∃ q' ∈ g'.rules, f ⟨false, q.left⟩ = ⟨false, q'.left⟩ ∧ q'.right = q.right.map f) {ss : List Sym} {u : List Int} (h : DerW g ss u) : DerW g' (ss.map f) (u.flatMap σ) := by
  induction h with
  | nil => exact .nil
  | term n ss u _ ih =>
    rw [List.map_cons, List.flatMap_cons]
    exact DerW.append (ss := [f ⟨true, n⟩]) (hT n) ih
  | non q ss u v hq _ _ ih1 ih2 =>
    obtain ⟨q', hq', e1, e2⟩ := hN q hq
    rw [List.map_cons, List.flatMap_append, e1]
    exact .non q' _ _ _ hq' (by rw [e2]; exact ih1) ih2
theorem flatMap_one : ∀ (u : List Int), (u.flatMap fun x => [x]) = u
  | [] => rfl
  | x :: u => by rw [List.flatMap_cons, flatMap_one u]; rfl
theorem DerW.map {g g' : Gram} (f : Sym → Sym) (hT : ∀ n, f ⟨true, n⟩ = ⟨true, n⟩) (hN : ∀ q ∈ g.rules, ∃ q' ∈ g'.rules, f ⟨false, q.left⟩ = ⟨false, q'.left⟩ ∧ q'.right = q.right.map f) {ss : List Sym} {u : List Int} (h : DerW g ss u) : DerW g' (ss.map f) u := by
  have := DerW.subst f (fun x => [x]) (fun n => by rw [hT]; exact .term n [] [] .nil) hN h
  rwa [flatMap_one] at this
/-- And back, where the rules of what comes of a symbol are the symbol's own. -/
theorem DerW.unmap {g g' : Gram} (f : Sym → Sym) (P : Sym → Prop) (hT : ∀ s n, P s → f s = ⟨true, n⟩ → s = ⟨true, n⟩) (hN : ∀ q' ∈ g'.rules, ∀ s, P s → f s = ⟨false, q'.left⟩ → ∃ q ∈ g.rules, s = ⟨false, q.left⟩ ∧ q'.right = q.right.map f ∧ ∀ x ∈ q.right, P x) {ss' : List Sym} {u : List Int} (h : DerW g' ss' u) :
    ∀ ss, ss' = ss.map f → (∀ s ∈ ss, P s) → DerW g ss u := by
  induction h with
  | nil =>
    intro ss e _
    cases ss with
    | nil => exact .nil
    | cons s ss => simp at e
  | term n rr u _ ih =>
    intro ss e hP
    cases ss with
    | nil => simp at e
    | cons s ss =>
      rw [List.map_cons] at e
      injection e with e1 e2
      rw [hT s n (hP s (by simp)) e1.symm]
      exact .term n _ _ (ih ss e2 (fun x hx => hP x (by simp [hx])))
  | non q' rr u v hq _ _ ih1 ih2 =>
    intro ss e hP
    cases ss with
    | nil => simp at e
    | cons s ss =>
      rw [List.map_cons] at e
      injection e with e1 e2
      obtain ⟨q, hq1, rfl, hq2, hq3⟩ := hN q' hq s (hP s (by simp)) e1.symm
      exact .non q _ _ _ hq1 (ih1 q.right hq2 hq3) (ih2 ss e2 (fun x hx => hP x (by simp [hx])))

/-! ### Shifting nonterminals -/
def shS (k : Int) (s : Sym) : Sym := if s.term then s else ⟨false, s.n + k⟩
def shR (k : Int) (q : Rule) : Rule := ⟨q.left + k, q.right.map (shS k)⟩
def NonIn (n : Int) (s : Sym) : Prop := s.term = false → 0 ≤ s.n ∧ s.n < n
/-- The rules are of the nonterminals 0 .. n-1. -/
def InN (g : Gram) (n : Int) : Prop := ∀ q ∈ g.rules, (0 ≤ q.left ∧ q.left < n) ∧ ∀ s ∈ q.right, NonIn n s
theorem shS_term (k n : Int) : shS k ⟨true, n⟩ = ⟨true, n⟩ := by simp [shS]
theorem shS_non (k n : Int) : shS k ⟨false, n⟩ = ⟨false, n + k⟩ := by simp [shS]
/-- A grammar whose rules with a left side among k .. k+n-1 are the shifted ones of g. -/
structure Part (g g' : Gram) (k n : Int) : Prop where
  there : ∀ q ∈ g.rules, shR k q ∈ g'.rules
  back : ∀ q' ∈ g'.rules, k ≤ q'.left → q'.left < k + n → ∃ q ∈ g.rules, q' = shR k q
theorem Part.der {g g' : Gram} {k n : Int} (h : Part g g' k n) (hg : InN g n) {a : Int} (ha : 0 ≤ a) (han : a < n) (u : List Int) : DerW g' [⟨false, a + k⟩] u ↔ DerW g [⟨false, a⟩] u := by
  constructor
  · intro hd
    refine DerW.unmap (shS k) (NonIn n) (fun s m hs e => ?_) (fun q' hq' s hs e => ?_) hd [⟨false, a⟩] (by simp [shS]) (fun s hs => ?_)
    · obtain ⟨st, sn⟩ := s
      cases st
      · rw [shS_non] at e; injection e with e _; cases e
      · rw [shS_term] at e; exact e
    · obtain ⟨st, sn⟩ := s
      cases st
      · rw [shS_non] at e
        injection e with _ e
        have h1 := hs rfl
        dsimp only at h1
        obtain ⟨q, hq, rfl⟩ := h.back q' hq' (by omega) (by omega)
        refine ⟨q, hq, ?_, rfl, (hg q hq).2⟩
        have e' : sn + k = q.left + k := e
        rw [show sn = q.left by omega]
      · rw [shS_term] at e; injection e with e _; cases e
    · simp at hs
      subst hs
      exact fun _ => ⟨ha, han⟩
  · intro hd
    have := DerW.map (g' := g') (shS k) (shS_term k) (fun q hq => ⟨shR k q, h.there q hq, shS_non k q.left, rfl⟩) hd
    simpa [shS] using this

/-! ### Star -/
def starG (a : Gram) : Gram := ⟨a.terms, a.nons + 1, a.nons, a.rules.map (shR 0) ++ [⟨a.nons, []⟩, ⟨a.nons, [⟨false, a.nons⟩, ⟨false, a.start⟩]⟩]⟩
def StarW (a : Gram) (w : List Int) : Prop := w = [] ∨ ∃ k, k < w.length ∧ DerW (starG a) [⟨false, a.nons⟩] (w.take k) ∧ DerW a [⟨false, a.start⟩] (w.drop k)
theorem star_part {a : Gram} (ha : InN a a.nons) : Part a (starG a) 0 a.nons := by
  refine ⟨fun q hq => ?_, fun q' hq' h1 h2 => ?_⟩
  · unfold starG
    exact List.mem_append_left _ (List.mem_map_of_mem hq)
  · unfold starG at hq'
    rcases List.mem_append.1 hq' with h | h
    · obtain ⟨q, hq, rfl⟩ := List.mem_map.1 h
      exact ⟨q, hq, rfl⟩
    · simp at h
      rcases h with rfl | rfl
      · dsimp only at h2; omega
      · dsimp only at h2; omega
theorem star_to {a : Gram} (ha : InN a a.nons) (hs : 0 ≤ a.start ∧ a.start < a.nons) {ss : List Sym} {u : List Int} (h : DerW (starG a) ss u) : ∀ rest, ss = ⟨false, a.nons⟩ :: rest → ∃ v x, u = v ++ x ∧ DerW (starG a) [⟨false, a.nons⟩] v ∧ StarW a v ∧ DerW (starG a) rest x := by
  induction h with
  | nil => intro rest e; simp at e
  | term n ss u _ _ => intro rest e; injection e with e _; injection e with e _; cases e
  | non q ss u v hq h1 h2 ih1 ih2 =>
    intro rest e
    injection e with e1 e2
    injection e1 with _ e1
    subst e2
    refine ⟨u, v, rfl, ?_, ?_, h2⟩
    · have := DerW.non q [] u [] hq h1 .nil
      rw [List.append_nil, e1] at this
      exact this
    · unfold starG at hq
      rcases List.mem_append.1 hq with hm | hm
      · obtain ⟨q0, hq0, rfl⟩ := List.mem_map.1 hm
        have := (ha q0 hq0).1
        unfold shR at e1
        dsimp only at e1
        omega
      · simp at hm
        rcases hm with rfl | rfl
        · cases h1
          exact .inl rfl
        · obtain ⟨v', x, rfl, d1, d2, d3⟩ := ih1 [⟨false, a.start⟩] rfl
          have d4 : DerW a [⟨false, a.start⟩] x := by
            have := (star_part ha).der ha hs.1 hs.2 x
            rw [Int.add_zero] at this
            exact this.1 d3
          by_cases hx : x = []
          · subst hx
            rw [List.append_nil]
            exact d2
          · refine .inr ⟨v'.length, ?_, ?_, ?_⟩
            · rw [List.length_append]
              have : 0 < x.length := List.length_pos_iff.2 hx
              omega
            · rw [List.take_left]; exact d1
            · rw [List.drop_left]; exact d4
theorem star_iff {a : Gram} (ha : InN a a.nons) (hs : 0 ≤ a.start ∧ a.start < a.nons) (w : List Int) : DerW (starG a) [⟨false, a.nons⟩] w ↔ StarW a w := by
  constructor
  · intro h
    obtain ⟨v, x, rfl, _, h2, h3⟩ := star_to ha hs h [] rfl
    cases h3
    rw [List.append_nil]
    exact h2
  · rintro (rfl | ⟨k, hk, h1, h2⟩)
    · exact DerW.one.2 ⟨⟨a.nons, []⟩, by simp [starG], rfl, .nil⟩
    · refine DerW.one.2 ⟨⟨a.nons, [⟨false, a.nons⟩, ⟨false, a.start⟩]⟩, by simp [starG], rfl, ?_⟩
      have h3 : DerW (starG a) [⟨false, a.start⟩] (w.drop k) := by
        have := (star_part ha).der ha hs.1 hs.2 (w.drop k)
        rw [Int.add_zero] at this
        exact this.2 h2
      have := DerW.append h1 h3
      rwa [List.take_append_drop] at this

/-! ### Concat -/
def concatG (a b : Gram) : Gram := ⟨a.terms, a.nons + b.nons + 1, a.nons + b.nons, a.rules.map (shR 0) ++ b.rules.map (shR a.nons) ++ [⟨a.nons + b.nons, [⟨false, a.start⟩, ⟨false, a.nons + b.start⟩]⟩]⟩
theorem concat_part1 {a b : Gram} (ha : InN a a.nons) (hb : InN b b.nons) (hn : 0 ≤ b.nons) : Part a (concatG a b) 0 a.nons := by
  refine ⟨fun q hq => ?_, fun q' hq' h1 h2 => ?_⟩
  · unfold concatG
    exact List.mem_append_left _ (List.mem_append_left _ (List.mem_map_of_mem hq))
  · unfold concatG at hq'
    rcases List.mem_append.1 hq' with h | h
    · rcases List.mem_append.1 h with h | h
      · obtain ⟨q, hq, rfl⟩ := List.mem_map.1 h
        exact ⟨q, hq, rfl⟩
      · obtain ⟨q, hq, rfl⟩ := List.mem_map.1 h
        have := (hb q hq).1
        unfold shR at h2
        dsimp only at h2
        omega
    · simp at h
      subst h
      dsimp only at h2
      omega
theorem concat_part2 {a b : Gram} (ha : InN a a.nons) (hb : InN b b.nons) : Part b (concatG a b) a.nons b.nons := by
  refine ⟨fun q hq => ?_, fun q' hq' h1 h2 => ?_⟩
  · unfold concatG
    exact List.mem_append_left _ (List.mem_append_right _ (List.mem_map_of_mem hq))
  · unfold concatG at hq'
    rcases List.mem_append.1 hq' with h | h
    · rcases List.mem_append.1 h with h | h
      · obtain ⟨q, hq, rfl⟩ := List.mem_map.1 h
        have := (ha q hq).1
        unfold shR at h1
        dsimp only at h1
        omega
      · obtain ⟨q, hq, rfl⟩ := List.mem_map.1 h
        exact ⟨q, hq, rfl⟩
    · simp at h
      subst h
      dsimp only at h2
      omega
theorem concat_iff {a b : Gram} (ha : InN a a.nons) (hb : InN b b.nons) (hsa : 0 ≤ a.start ∧ a.start < a.nons) (hsb : 0 ≤ b.start ∧ b.start < b.nons) (w : List Int) :
    DerW (concatG a b) [⟨false, a.nons + b.nons⟩] w ↔ ∃ k, k ≤ w.length ∧ DerW a [⟨false, a.start⟩] (w.take k) ∧ DerW b [⟨false, b.start⟩] (w.drop k) := by
  have p1 := fun u => (concat_part1 ha hb (by omega)).der ha hsa.1 hsa.2 u
  have p2 := fun u => (concat_part2 ha hb).der hb hsb.1 hsb.2 u
  constructor
  · intro h
    obtain ⟨q, hq, hl, hd⟩ := DerW.one.1 h
    unfold concatG at hq
    rcases List.mem_append.1 hq with hm | hm
    · rcases List.mem_append.1 hm with hm | hm
      · obtain ⟨q0, hq0, rfl⟩ := List.mem_map.1 hm
        have := (ha q0 hq0).1
        unfold shR at hl
        dsimp only at hl
        omega
      · obtain ⟨q0, hq0, rfl⟩ := List.mem_map.1 hm
        have := (hb q0 hq0).1
        unfold shR at hl
        dsimp only at hl
        omega
    · simp at hm
      subst hm
      obtain ⟨v, x, rfl, h1, h2⟩ := DerW.cons2.1 hd
      refine ⟨v.length, by simp, ?_, ?_⟩
      · rw [List.take_left]
        have := p1 v
        rw [Int.add_zero] at this
        exact this.1 h1
      · rw [List.drop_left]
        have := p2 x
        rw [Int.add_comm] at this
        exact this.1 h2
  · rintro ⟨k, hk, h1, h2⟩
    refine DerW.one.2 ⟨⟨a.nons + b.nons, [⟨false, a.start⟩, ⟨false, a.nons + b.start⟩]⟩, by simp [concatG], rfl, ?_⟩
    have h3 := p1 (w.take k)
    rw [Int.add_zero] at h3
    have h4 := p2 (w.drop k)
    rw [Int.add_comm b.start] at h4
    have := DerW.append (h3.2 h1) (h4.2 h2)
    rwa [List.take_append_drop] at this

/-! ### Put -/
def putS (t m : Int) (s : Sym) : Sym := if s = ⟨true, t⟩ then ⟨false, m⟩ else s
def putR (t m : Int) (q : Rule) : Rule := ⟨q.left, q.right.map (putS t m)⟩
def putG (a : Gram) (t : Int) (b : Gram) : Gram := ⟨a.terms, a.nons + b.nons, a.start, (a.rules.map (shR 0)).map (putR t (a.nons + b.start)) ++ b.rules.map (shR a.nons)⟩
theorem put_part2 {a b : Gram} (t : Int) (ha : InN a a.nons) (hb : InN b b.nons) : Part b (putG a t b) a.nons b.nons := by
  refine ⟨fun q hq => ?_, fun q' hq' h1 h2 => ?_⟩
  · unfold putG
    exact List.mem_append_right _ (List.mem_map_of_mem hq)
  · unfold putG at hq'
    rcases List.mem_append.1 hq' with h | h
    · obtain ⟨q1, hq1, rfl⟩ := List.mem_map.1 h
      obtain ⟨q, hq, rfl⟩ := List.mem_map.1 hq1
      have := (ha q hq).1
      unfold putR shR at h1
      dsimp only at h1
      omega
    · obtain ⟨q, hq, rfl⟩ := List.mem_map.1 h
      exact ⟨q, hq, rfl⟩
theorem put_der {a b : Gram} {t : Int} (ha : InN a a.nons) (hb : InN b b.nons) (hsb : 0 ≤ b.start ∧ b.start < b.nons) {y u : List Int} (hu : DerW b [⟨false, b.start⟩] u) (hy : DerW a [⟨false, a.start⟩] y) :
    DerW (putG a t b) [⟨false, a.start⟩] (y.flatMap fun x => if x = t then u else [x]) := by
  have h1 : DerW (putG a t b) [⟨false, a.nons + b.start⟩] u := by
    have := (put_part2 t ha hb).der hb hsb.1 hsb.2 u
    rw [Int.add_comm] at this
    exact this.2 hu
  have h2 := DerW.subst (g' := putG a t b) (fun s => putS t (a.nons + b.start) (shS 0 s)) (fun x => if x = t then u else [x]) (fun n => by
    rw [shS_term]
    unfold putS
    by_cases e : n = t
    · subst e; simp [h1]
    · rw [if_neg (by simp [e]), if_neg e]
      exact .term n [] [] .nil) (fun q hq => ⟨putR t (a.nons + b.start) (shR 0 q), by unfold putG; exact List.mem_append_left _ (List.mem_map_of_mem (List.mem_map_of_mem hq)), by rw [shS_non]; simp [putS, putR, shR], by simp [putR, shR]⟩) hy
  simpa [shS, putS] using h2
end Go.Proofs.YtehndgmgljlioaaDoor
