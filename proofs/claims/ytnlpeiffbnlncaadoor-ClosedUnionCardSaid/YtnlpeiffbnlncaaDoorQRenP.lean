/- Plain: trees whose rules get other numbers and whose symbols get other names. No program is named here. -/
import Derived.Test.YtnlpeiffbnlncaaDoorQCntL
namespace Go.Proofs.YtnlpeiffbnlncaaDoor
set_option linter.unusedVariables false

mutual
/-- A tree with other numbers of rules. -/
def mapT (f : Int → Int) : Tree → Tree
  | ⟨r, t, ks⟩ => if r < 0 then ⟨r, t, ks⟩ else ⟨f r, t, mapTs f ks⟩
def mapTs (f : Int → Int) : List Tree → List Tree
  | [] => []
  | k :: ks => mapT f k :: mapTs f ks
end
/-- Rules of g that answer to those of h: numbers there and back, symbols renamed. -/
structure Ren (g h : Gram) (f k : Int → Int) (ok : Sym → Prop) (ρ : Sym → Sym) : Prop where
  term : ∀ s, (ρ s).term = s.term
  same : ∀ s, s.term = true → ρ s = s
  there : ∀ (i : Nat) (q : Rule), g.rules[i]? = some q → ok ⟨false, q.left⟩ → (∀ s ∈ q.right, ∃ t, vt g t s) → ∃ r : Nat, f (i : Int) = (r : Int) ∧ h.rules[r]? = some ⟨(ρ ⟨false, q.left⟩).n, q.right.map ρ⟩ ∧ k (r : Int) = (i : Int) ∧ ∀ s ∈ q.right, ok s
  back : ∀ (r : Nat) (z : Rule), h.rules[r]? = some z → ∀ a, ok ⟨false, a⟩ → z.left = (ρ ⟨false, a⟩).n → ∃ (i : Nat) (q : Rule), k (r : Int) = (i : Int) ∧ g.rules[i]? = some q ∧ q.left = a ∧ z.right = q.right.map ρ ∧ f (i : Int) = (r : Int) ∧ ∀ s ∈ q.right, ok s
section
variable {g h : Gram} {f k : Int → Int} {ok : Sym → Prop} {ρ : Sym → Sym}
theorem vts_each : ∀ (ks : List Tree) (ss : List Sym), vts g ks ss → ∀ s ∈ ss, ∃ t, vt g t s
  | [], [], _, s, hs => by simp at hs
  | x :: ks, s' :: ss, h, s, hs => by
    unfold vts at h
    rcases List.mem_cons.1 hs with rfl | hs
    · exact ⟨x, h.1⟩
    · exact vts_each ks ss h.2 s hs
  | [], _ :: _, h, _, _ => by unfold vts at h; exact h.elim
  | _ :: _, [], h, _, _ => by unfold vts at h; exact h.elim
mutual
theorem Ren.to_ (R : Ren g h f k ok ρ) : ∀ (t : Tree) (s : Sym), vt g t s → ok s → vt h (mapT f t) (ρ s) ∧ mapT k (mapT f t) = t ∧ yieldT (mapT f t) = yieldT t
  | ⟨r, tt, ks⟩, s, hv, ho => by
    unfold vt at hv
    split at hv
    · rename_i ht
      obtain ⟨rfl, rfl, rfl⟩ := hv
      have e : mapT f ⟨-1, s.n, []⟩ = ⟨-1, s.n, []⟩ := by unfold mapT; rw [if_pos (by omega)]
      have e2 : mapT k ⟨-1, s.n, []⟩ = ⟨-1, s.n, []⟩ := by unfold mapT; rw [if_pos (by omega)]
      rw [e, e2, R.same s ht]
      refine ⟨?_, rfl, rfl⟩
      unfold vt
      rw [if_pos ht]
      exact ⟨rfl, rfl, rfl⟩
    · rename_i ht
      obtain ⟨rfl, hr, q, hq, hql, hks⟩ := hv
      obtain ⟨i, rfl⟩ : ∃ i : Nat, r = (i : Int) := ⟨r.toNat, by omega⟩
      rw [Int.toNat_natCast] at hq
      have hs : s = ⟨false, q.left⟩ := by obtain ⟨st, sn⟩ := s; simp at ht; subst ht; rw [hql]
      subst hs
      obtain ⟨j, h1, h2, h3, h4⟩ := R.there i q hq ho (vts_each ks q.right hks)
      obtain ⟨i1, i2, i3⟩ := R.tos ks q.right hks h4
      have e : mapT f ⟨(i : Int), 0, ks⟩ = ⟨(j : Int), 0, mapTs f ks⟩ := by
        unfold mapT
        rw [if_neg (by omega), h1]
      rw [e]
      refine ⟨?_, ?_, ?_⟩
      · unfold vt
        rw [if_neg (by rw [R.term]; simp)]
        exact ⟨rfl, by omega, _, by rw [Int.toNat_natCast]; exact h2, rfl, i1⟩
      · unfold mapT
        rw [if_neg (by omega), h3, i2]
      · unfold yieldT
        rw [if_neg (by omega), if_neg (by omega)]
        exact i3
theorem Ren.tos (R : Ren g h f k ok ρ) : ∀ (ks : List Tree) (ss : List Sym), vts g ks ss → (∀ s ∈ ss, ok s) → vts h (mapTs f ks) (ss.map ρ) ∧ mapTs k (mapTs f ks) = ks ∧ yields (mapTs f ks) = yields ks
  | [], [], _, _ => by refine ⟨?_, ?_, ?_⟩ <;> simp [mapTs, vts, yields]
  | x :: ks, s :: ss, hv, ho => by
    unfold vts at hv
    obtain ⟨a1, a2, a3⟩ := R.to_ x s hv.1 (ho s (by simp))
    obtain ⟨b1, b2, b3⟩ := R.tos ks ss hv.2 (fun s hs => ho s (by simp [hs]))
    refine ⟨?_, ?_, ?_⟩
    · rw [List.map_cons]; simp only [mapTs, vts]; exact ⟨a1, b1⟩
    · simp only [mapTs]; rw [a2, b2]
    · simp only [mapTs, yields]; rw [a3, b3]
  | [], _ :: _, hv, _ => by unfold vts at hv; exact hv.elim
  | _ :: _, [], hv, _ => by unfold vts at hv; exact hv.elim
end
mutual
theorem Ren.fro (R : Ren g h f k ok ρ) : ∀ (u : Tree) (s : Sym), vt h u (ρ s) → ok s → vt g (mapT k u) s ∧ mapT f (mapT k u) = u ∧ yieldT (mapT k u) = yieldT u
  | ⟨r, tt, ks⟩, s, hv, ho => by
    unfold vt at hv
    split at hv
    · rename_i ht
      rw [R.term] at ht
      rw [R.same s ht] at hv
      obtain ⟨rfl, rfl, rfl⟩ := hv
      have e : mapT f ⟨-1, s.n, []⟩ = ⟨-1, s.n, []⟩ := by unfold mapT; rw [if_pos (by omega)]
      have e2 : mapT k ⟨-1, s.n, []⟩ = ⟨-1, s.n, []⟩ := by unfold mapT; rw [if_pos (by omega)]
      rw [e2, e]
      refine ⟨?_, rfl, rfl⟩
      unfold vt
      rw [if_pos ht]
      exact ⟨rfl, rfl, rfl⟩
    · rename_i ht
      rw [R.term] at ht
      obtain ⟨rfl, hr, z, hz, hzl, hks⟩ := hv
      obtain ⟨j, rfl⟩ : ∃ i : Nat, r = (i : Int) := ⟨r.toNat, by omega⟩
      rw [Int.toNat_natCast] at hz
      have hs : s = ⟨false, s.n⟩ := by
        obtain ⟨st, sn⟩ := s
        simp at ht
        subst ht
        rfl
      obtain ⟨i, q, h1, h2, h3, h6, h4, h5⟩ := R.back j z hz s.n (hs ▸ ho) (by rw [← hs]; exact hzl)
      rw [h6] at hks
      obtain ⟨i1, i2, i3⟩ := R.fros ks q.right hks h5
      have e : mapT k ⟨(j : Int), 0, ks⟩ = ⟨(i : Int), 0, mapTs k ks⟩ := by
        unfold mapT
        rw [if_neg (by omega), h1]
      rw [e]
      refine ⟨?_, ?_, ?_⟩
      · unfold vt
        rw [if_neg ht]
        exact ⟨rfl, by omega, q, by rw [Int.toNat_natCast]; exact h2, h3, i1⟩
      · unfold mapT
        rw [if_neg (by omega), h4, i2]
      · unfold yieldT
        rw [if_neg (by omega), if_neg (by omega)]
        exact i3
theorem Ren.fros (R : Ren g h f k ok ρ) : ∀ (ks : List Tree) (ss : List Sym), vts h ks (ss.map ρ) → (∀ s ∈ ss, ok s) → vts g (mapTs k ks) ss ∧ mapTs f (mapTs k ks) = ks ∧ yields (mapTs k ks) = yields ks
  | [], [], _, _ => by refine ⟨?_, ?_, ?_⟩ <;> simp [mapTs, vts, yields]
  | x :: ks, s :: ss, hv, ho => by
    rw [List.map_cons] at hv
    unfold vts at hv
    obtain ⟨a1, a2, a3⟩ := R.fro x s hv.1 (ho s (by simp))
    obtain ⟨b1, b2, b3⟩ := R.fros ks ss hv.2 (fun s hs => ho s (by simp [hs]))
    refine ⟨?_, ?_, ?_⟩
    · simp only [mapTs, vts]; exact ⟨a1, b1⟩
    · simp only [mapTs]; rw [a2, b2]
    · simp only [mapTs, yields]; rw [a3, b3]
  | [], _ :: _, hv, _ => by rw [List.map_cons] at hv; unfold vts at hv; exact hv.elim
  | _ :: _, [], hv, _ => by rw [List.map_nil] at hv; unfold vts at hv; exact hv.elim
end
/-- Counts of trees of two grammars that answer to each other. -/
theorem Ren.count (R : Ren g h f k ok ρ) (h0 : ok ⟨false, g.start⟩) (h1 : ρ ⟨false, g.start⟩ = ⟨false, h.start⟩) {w : List Int} {a b : Int} (ha : CntIs (TreesOf g w) a) (hb : CntIs (TreesOf h w) b) : a = b :=
  CntIs.bij (mapT f) (mapT k) (fun t ht => by
    obtain ⟨i1, i2, i3⟩ := R.to_ t _ ht.1 h0
    rw [h1] at i1
    exact ⟨⟨i1, i3.trans ht.2⟩, i2⟩) (fun u hu => by
    obtain ⟨i1, i2, i3⟩ := R.fro u ⟨false, g.start⟩ (by rw [h1]; exact hu.1) h0
    exact ⟨⟨i1, i3.trans hu.2⟩, i2⟩) ha hb
end
end Go.Proofs.YtnlpeiffbnlncaaDoor
