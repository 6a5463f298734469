/- Plain facts and definitions of this proof, of several texts joined: CntP, ClosedP, Idx, Kept, CntD, KeyM, Two, TwoMany, CntB, RegByHand, RowU, ElsS, RegStage, Short, IntCells, StabP, SortKLay, CmpL, Take, CntV, ClimbM, OperP. -/
import Derived.Test.YtjdojogjogenkaaDoorQp1
import Derived.Test.YtjdojogjogenkaaDoorChecked
import Derived.Maps.Own
import Derived.Maps.OwnSet
import Derived.DeepKeys4
import Derived.Deep.RegionHeld3
import Derived.StillTailTactics
import Derived.Laws.CopyOwn
import Derived.Deep.OwnRows
import Derived.IntWalk
import Derived.Laws.EntriesVeiled
import Derived.BigRegion
import Derived.Shelf.SlSortCmp.WholeK
import Derived.Maps.Views
/- The plain law of mean.Count: the count of a forest's node is the number of its trees, limited, and a cycle that is reached makes infinitely many. No program is named here. -/
namespace Go.Proofs.YtjdojogjogenkaaDoor
set_option linter.unusedVariables false

/-- How many trees have a property: their number, limited, or -1 for infinitely many. -/
def CntIs (P : Tree → Prop) (c : Int) : Prop :=
  (c = -1 ∧ ∀ N : Nat, ∃ t, P t ∧ N ≤ nodesT t) ∨ ∃ L : List Tree, L.Nodup ∧ (∀ t, t ∈ L ↔ P t) ∧ c = ((min L.length 1000000000 : Nat) : Int)
/-- The trees of a word. -/
def TreesOf (g : Gram) (w : List Int) (t : Tree) : Prop := vt g t ⟨false, g.start⟩ ∧ yieldT t = w

theorem nodup_leC {α : Type} : ∀ (l m : List α), l.Nodup → (∀ x ∈ l, x ∈ m) → l.length ≤ m.length
  | [], m, _, _ => by simp
  | x :: l, m, hn, h => by
    obtain ⟨a, b, rfl⟩ := List.append_of_mem (h x (by simp))
    rw [List.nodup_cons] at hn
    have h2 := nodup_leC l (a ++ b) hn.2 (fun y hy => by
      have h3 := h y (by simp [hy])
      simp only [List.mem_append, List.mem_cons] at h3 ⊢
      rcases h3 with h3 | h3 | h3
      · exact .inl h3
      · subst h3; exact absurd hy hn.1
      · exact .inr h3)
    simp only [List.length_append, List.length_cons] at h2 ⊢
    omega
theorem nodup_map {α β : Type} (f : α → β) : ∀ (l : List α), l.Nodup → (∀ x ∈ l, ∀ y ∈ l, f x = f y → x = y) → (l.map f).Nodup
  | [], _, _ => by simp
  | x :: l, hn, h => by
    rw [List.nodup_cons] at hn
    rw [List.map_cons, List.nodup_cons]
    refine ⟨fun hm => ?_, nodup_map f l hn.2 (fun a ha b hb => h a (by simp [ha]) b (by simp [hb]))⟩
    obtain ⟨y, hy, e⟩ := List.mem_map.1 hm
    have := h y (by simp [hy]) x (by simp) e
    subst this
    exact hn.1 hy
theorem nodes_bound : ∀ (L : List Tree), ∃ N : Nat, ∀ t ∈ L, nodesT t < N
  | [] => ⟨0, by simp⟩
  | x :: L => by
    obtain ⟨N, h⟩ := nodes_bound L
    refine ⟨N + nodesT x + 1, fun t ht => ?_⟩
    rcases List.mem_cons.1 ht with rfl | ht
    · omega
    · have := h t ht; omega
theorem CntIs.le {P Q : Tree → Prop} (f : Tree → Tree) (hf : ∀ t, P t → Q (f t)) (hi : ∀ t u, P t → P u → f t = f u → t = u) {L M : List Tree} (hn : L.Nodup) (hL : ∀ t, t ∈ L ↔ P t) (hM : ∀ t, t ∈ M ↔ Q t) : L.length ≤ M.length := by
  have h := nodup_leC (L.map f) M (nodup_map f L hn (fun x hx y hy => hi x y ((hL x).1 hx) ((hL y).1 hy))) (fun y hy => by
    obtain ⟨x, hx, rfl⟩ := List.mem_map.1 hy
    exact (hM _).2 (hf x ((hL x).1 hx)))
  rwa [List.length_map] at h
/-- Trees that correspond to each other are as many. -/
theorem CntIs.bij {P Q : Tree → Prop} (f k : Tree → Tree) (hf : ∀ t, P t → Q (f t) ∧ k (f t) = t) (hk : ∀ t, Q t → P (k t) ∧ f (k t) = t) {a b : Int} (ha : CntIs P a) (hb : CntIs Q b) : a = b := by
  rcases ha with ⟨rfl, ha⟩ | ⟨L, hLn, hL, rfl⟩ <;> rcases hb with ⟨rfl, hb⟩ | ⟨M, hMn, hM, rfl⟩
  · rfl
  · exfalso
    obtain ⟨N, hN⟩ := nodes_bound (M.map k)
    obtain ⟨t, h1, h2⟩ := ha N
    have := hN t (List.mem_map.2 ⟨f t, (hM _).2 (hf t h1).1, (hf t h1).2⟩)
    omega
  · exfalso
    obtain ⟨N, hN⟩ := nodes_bound (L.map f)
    obtain ⟨t, h1, h2⟩ := hb N
    have := hN t (List.mem_map.2 ⟨k t, (hL _).2 (hk t h1).1, (hk t h1).2⟩)
    omega
  · have h1 := CntIs.le f (fun t h => (hf t h).1) (fun t u ht hu e => by rw [← (hf t ht).2, ← (hf u hu).2, e]) hLn hL hM
    have h2 := CntIs.le k (fun t h => (hk t h).1) (fun t u ht hu e => by rw [← (hk t ht).2, ← (hk u hu).2, e]) hMn hM hL
    rw [show L.length = M.length by omega]
theorem CntIs.congr {P Q : Tree → Prop} (h : ∀ t, P t ↔ Q t) {a b : Int} (ha : CntIs P a) (hb : CntIs Q b) : a = b :=
  CntIs.bij id id (fun t ht => ⟨(h t).1 ht, rfl⟩) (fun t ht => ⟨(h t).2 ht, rfl⟩) ha hb

/-- A node of a forest. -/
structure NKey where
  sym : Sym
  fr : Nat
  to : Nat
  deriving DecidableEq
def TAt (g : Gram) (w : List Int) (k : NKey) (t : Tree) : Prop := vt g t k.sym ∧ yieldT t = segW w k.fr k.to
def TsAt (g : Gram) (w : List Int) : List NKey → List Tree → Prop
  | [], [] => True
  | k :: l, t :: ts => TAt g w k t ∧ TsAt g w l ts
  | [], _ :: _ => False
  | _ :: _, [] => False
/-- The ways of a list of symbols from a place to another one, in order. -/
def waysL (w : List Int) (T : List (List Nat)) : List Sym → Nat → Nat → List (List NKey)
  | [], f, t => if f = t then [[]] else []
  | s :: ss, f, t => (List.range (t + 1)).flatMap fun m => if (hopM w T s f).testBit m = true then (waysL w T ss m t).map (fun l => ⟨s, f, m⟩ :: l) else []
def IsWay (w : List Int) (T : List (List Nat)) : List Sym → Nat → Nat → List NKey → Prop
  | [], f, t, l => f = t ∧ l = []
  | s :: ss, f, t, l => ∃ m l', m ≤ t ∧ Hop w T s f m ∧ l = ⟨s, f, m⟩ :: l' ∧ IsWay w T ss m t l'
theorem mem_ways {w : List Int} {T : List (List Nat)} : ∀ (ss : List Sym) (f t : Nat) (l : List NKey), l ∈ waysL w T ss f t ↔ IsWay w T ss f t l
  | [], f, t, l => by
    unfold waysL IsWay
    split
    · rename_i h; simp [h]
    · rename_i h; simp [h]
  | s :: ss, f, t, l => by
    unfold waysL IsWay
    rw [List.mem_flatMap]
    constructor
    · rintro ⟨m, hm, hl⟩
      rw [List.mem_range] at hm
      split at hl
      · rename_i hh
        obtain ⟨l', h1, rfl⟩ := List.mem_map.1 hl
        exact ⟨m, l', by omega, hh, rfl, (mem_ways ss m t l').1 h1⟩
      · simp at hl
    · rintro ⟨m, l', h1, h2, rfl, h3⟩
      refine ⟨m, List.mem_range.2 (by omega), ?_⟩
      rw [if_pos (show (hopM w T s f).testBit m = true from h2)]
      exact List.mem_map.2 ⟨l', (mem_ways ss m t l').2 h3, rfl⟩
theorem ways_nodup (w : List Int) (T : List (List Nat)) : ∀ (ss : List Sym) (f t : Nat), (waysL w T ss f t).Nodup
  | [], f, t => by unfold waysL; split <;> simp
  | s :: ss, f, t => by
    unfold waysL
    rw [List.Nodup, List.pairwise_flatMap]
    refine ⟨fun m hm => ?_, ?_⟩
    · split
      · exact nodup_map _ _ (ways_nodup w T ss m t) (fun x _ y _ h => by injection h)
      · exact List.Pairwise.nil
    · refine List.Pairwise.imp ?_ (List.nodup_range (n := t + 1))
      intro a b hab x hx y hy e
      subst e
      split at hx
      · split at hy
        · obtain ⟨l1, _, rfl⟩ := List.mem_map.1 hx
          obtain ⟨l2, _, e⟩ := List.mem_map.1 hy
          injection e with e1 _
          injection e1 with _ _ e2
          exact hab e2.symm
        · simp at hy
      · simp at hx
theorem IsWay.way {w : List Int} {T : List (List Nat)} : ∀ (ss : List Sym) (f t : Nat) (l : List NKey), IsWay w T ss f t l → Way w T ss f t
  | [], f, t, l, h => h.1
  | s :: ss, f, t, l, ⟨m, l', _, h1, _, h2⟩ => ⟨m, h1, IsWay.way ss m t l' h2⟩
/-- A node that derives its part. -/
structure GoodK (w : List Int) (T : List (List Nat)) (k : NKey) : Prop where
  le : k.fr ≤ k.to
  len : k.to ≤ w.length
  n0 : 0 ≤ k.sym.n
  hop : Hop w T k.sym k.fr k.to
section
variable {g : Gram} {w : List Int} {T : List (List Nat)}
theorem hop_sound (hS : SndM g w T) {s : Sym} {f m : Nat} (h0 : 0 ≤ s.n) (hf : f ≤ w.length) (h : Hop w T s f m) : f ≤ m ∧ m ≤ w.length ∧ DerW g [s] (segW w f m) :=
  way_sound hS [s] f m (fun x hx => by simp at hx; subst hx; exact h0) hf ⟨m, h, rfl⟩
theorem GoodK.tree (hS : SndM g w T) (hr : ∀ q ∈ g.rules, 0 ≤ q.left) {k : NKey} (h : GoodK w T k) : ∃ t, TAt g w k t := by
  obtain ⟨_, _, hd⟩ := hop_sound hS h.n0 (Nat.le_trans h.le h.len) h.hop
  obtain ⟨ks, h1, h2⟩ := trees_of_der hd hr
  cases ks with
  | nil => unfold vts at h1; exact h1.elim
  | cons t ks =>
    cases ks with
    | nil =>
      unfold vts at h1
      refine ⟨t, h1.1, ?_⟩
      simpa [yields] using h2
    | cons t2 ks => unfold vts at h1; have := h1.2; unfold vts at this; exact this.elim
theorem way_good (hS : SndM g w T) : ∀ (ss : List Sym) (f t : Nat) (l : List NKey), (∀ s ∈ ss, 0 ≤ s.n) → f ≤ w.length → IsWay w T ss f t l → ∀ k ∈ l, GoodK w T k
  | [], f, t, l, _, _, h, k, hk => by rw [h.2] at hk; simp at hk
  | s :: ss, f, t, l, hs, hf, ⟨m, l', _, h1, e, h2⟩, k, hk => by
    subst e
    obtain ⟨h3, h4, _⟩ := hop_sound hS (hs s (by simp)) hf h1
    rcases List.mem_cons.1 hk with rfl | hk
    · exact ⟨h3, h4, hs s (by simp), h1⟩
    · exact way_good hS ss m t l' (fun x hx => hs x (by simp [hx])) h4 h2 k hk
theorem ways_sound (hS : SndM g w T) : ∀ (ss : List Sym) (f t : Nat) (l : List NKey) (ts : List Tree), (∀ s ∈ ss, 0 ≤ s.n) → f ≤ w.length → IsWay w T ss f t l → TsAt g w l ts → vts g ts ss ∧ yields ts = segW w f t ∧ f ≤ t
  | [], f, t, l, ts, _, _, h, h2 => by
    obtain ⟨rfl, rfl⟩ := h
    cases ts with
    | nil => unfold vts; exact ⟨trivial, by rw [segW_self]; rfl, Nat.le_refl _⟩
    | cons x ts => unfold TsAt at h2; exact h2.elim
  | s :: ss, f, t, l, ts, hs, hf, ⟨m, l', hmt, h1, e, h2⟩, h3 => by
    subst e
    cases ts with
    | nil => unfold TsAt at h3; exact h3.elim
    | cons x ts =>
      unfold TsAt at h3
      obtain ⟨h4, h5, _⟩ := hop_sound hS (hs s (by simp)) hf h1
      obtain ⟨h6, h7, h8⟩ := ways_sound hS ss m t l' ts (fun x hx => hs x (by simp [hx])) h5 h2 h3.2
      unfold vts yields
      refine ⟨⟨h3.1.1, h6⟩, ?_, by omega⟩
      rw [h3.1.2, h7]
      exact segW_app w h4 h8
theorem ways_complete (hc : ClM g w T) : ∀ (ss : List Sym) (f t : Nat) (ts : List Tree), f ≤ t → t ≤ w.length → vts g ts ss → yields ts = segW w f t → ∃ l, IsWay w T ss f t l ∧ TsAt g w l ts
  | [], f, t, ts, h1, h2, h3, h4 => by
    cases ts with
    | nil =>
      have := congrArg List.length h4
      rw [segW_len w h1 h2] at this
      simp [yields] at this
      exact ⟨[], ⟨by omega, rfl⟩, by unfold TsAt; trivial⟩
    | cons x ts => unfold vts at h3; exact h3.elim
  | s :: ss, f, t, ts, h1, h2, h3, h4 => by
    cases ts with
    | nil => unfold vts at h3; exact h3.elim
    | cons x ts =>
      unfold vts at h3
      unfold yields at h4
      have hl := congrArg List.length h4
      rw [segW_len w h1 h2, List.length_append] at hl
      have h5 := segW_app w (show f ≤ f + (yieldT x).length by omega) (show f + (yieldT x).length ≤ t by omega)
      rw [← h4] at h5
      have h6 := List.append_inj h5 (by rw [segW_len w (by omega) (by omega)]; omega)
      have hd := der_of_tree x s h3.1 [] [] .nil
      rw [List.append_nil] at hd
      obtain ⟨m, hm, e⟩ := way_complete hc hd f (f + (yieldT x).length) (by omega) (by omega) h6.1.symm
      have e : m = f + (yieldT x).length := e
      subst e
      obtain ⟨l, h7, h8⟩ := ways_complete hc ss (f + (yieldT x).length) t ts (by omega) h2 h3.2 h6.2.symm
      refine ⟨⟨s, f, f + (yieldT x).length⟩ :: l, ⟨_, l, by omega, hm, rfl, h7⟩, ?_⟩
      unfold TsAt
      exact ⟨⟨h3.1, h6.1.symm⟩, h8⟩
theorem ways_uniq (hS : SndM g w T) : ∀ (ss : List Sym) (f t : Nat) (l l' : List NKey) (ts : List Tree), (∀ s ∈ ss, 0 ≤ s.n) → f ≤ w.length → IsWay w T ss f t l → IsWay w T ss f t l' → TsAt g w l ts → TsAt g w l' ts → l = l'
  | [], f, t, l, l', ts, _, _, h, h', _, _ => by rw [h.2, h'.2]
  | s :: ss, f, t, l, l', ts, hs, hf, ⟨m, a, _, h1, e, h2⟩, ⟨m', a', _, h1', e', h2'⟩, h3, h3' => by
    subst e; subst e'
    cases ts with
    | nil => unfold TsAt at h3; exact h3.elim
    | cons x ts =>
      unfold TsAt at h3 h3'
      obtain ⟨h4, h5, _⟩ := hop_sound hS (hs s (by simp)) hf h1
      obtain ⟨h4', h5', _⟩ := hop_sound hS (hs s (by simp)) hf h1'
      have e1 := h3.1.2.symm.trans h3'.1.2
      have e2 := congrArg List.length e1
      dsimp only at e2
      rw [segW_len w h4 h5, segW_len w h4' h5'] at e2
      have e3 : m = m' := by omega
      subst e3
      rw [ways_uniq hS ss m t a a' ts (fun x hx => hs x (by simp [hx])) h5 h2 h2' h3.2 h3'.2]

/-- The packs of a node, in order. -/
def packsL (g : Gram) (w : List Int) (T : List (List Nat)) (k : NKey) : List (Nat × List NKey) :=
  if k.sym.term then [] else g.rules.zipIdx.flatMap fun x => if x.1.left = k.sym.n then (waysL w T x.1.right k.fr k.to).map (fun l => (x.2, l)) else []
theorem mem_packs {k : NKey} {p : Nat × List NKey} : p ∈ packsL g w T k ↔ k.sym.term = false ∧ ∃ q, g.rules[p.1]? = some q ∧ q.left = k.sym.n ∧ IsWay w T q.right k.fr k.to p.2 := by
  unfold packsL
  split
  · rename_i h; simp [h]
  · rename_i h
    rw [List.mem_flatMap]
    constructor
    · rintro ⟨⟨q, i⟩, h1, h2⟩
      have h3 := List.mem_zipIdx_iff_getElem?.1 h1
      dsimp only at h2 h3
      split at h2
      · rename_i h4
        obtain ⟨l, h5, rfl⟩ := List.mem_map.1 h2
        exact ⟨by simpa using h, q, by simpa using h3, h4, (mem_ways _ _ _ _).1 h5⟩
      · simp at h2
    · rintro ⟨_, q, h1, h2, h3⟩
      refine ⟨(q, p.1), List.mem_zipIdx_iff_getElem?.2 (by simpa using h1), ?_⟩
      dsimp only
      rw [if_pos h2]
      exact List.mem_map.2 ⟨p.2, (mem_ways _ _ _ _).2 h3, rfl⟩
theorem zipIdx_pair {α : Type} : ∀ (l : List α) (n : Nat), (l.zipIdx n).Pairwise (fun a b => a.2 ≠ b.2)
  | [], n => by simp
  | x :: l, n => by
    rw [List.zipIdx_cons, List.pairwise_cons]
    refine ⟨fun b hb => ?_, zipIdx_pair l (n + 1)⟩
    obtain ⟨y, i⟩ := b
    have := (List.mem_zipIdx hb).1
    dsimp only at this ⊢
    omega
theorem packs_nodup (k : NKey) : (packsL g w T k).Nodup := by
  unfold packsL
  split
  · simp
  · rw [List.Nodup, List.pairwise_flatMap]
    refine ⟨fun x hx => ?_, ?_⟩
    · split
      · exact nodup_map _ _ (ways_nodup w T _ _ _) (fun x _ y _ h => by injection h)
      · exact List.Pairwise.nil
    · refine List.Pairwise.imp ?_ (zipIdx_pair g.rules 0)
      intro a b hab x hx y hy e
      subst e
      split at hx
      · split at hy
        · obtain ⟨l1, _, rfl⟩ := List.mem_map.1 hx
          obtain ⟨l2, _, e⟩ := List.mem_map.1 hy
          injection e with e1 _
          exact hab e1.symm
        · simp at hy
      · simp at hx

/-- The trees of a node are those of its packs. -/
theorem tree_pack (hS : SndM g w T) (hc : ClM g w T) (hs : ∀ q ∈ g.rules, ∀ s ∈ q.right, 0 ≤ s.n) {k : NKey} (hk : k.sym.term = false) (hle : k.fr ≤ k.to) (hlen : k.to ≤ w.length) (t : Tree) :
    TAt g w k t ↔ ∃ p ∈ packsL g w T k, ∃ ts, t = ⟨(p.1 : Int), 0, ts⟩ ∧ TsAt g w p.2 ts := by
  constructor
  · rintro ⟨h1, h2⟩
    obtain ⟨r, tt, ks⟩ := t
    unfold vt at h1
    rw [if_neg (by simp [hk])] at h1
    obtain ⟨rfl, hr, q, hq, hql, hks⟩ := h1
    have hy : yields ks = segW w k.fr k.to := by
      rw [← h2]; unfold yieldT; rw [if_neg (by omega)]
    obtain ⟨l, h3, h4⟩ := ways_complete hc q.right k.fr k.to ks hle hlen hks hy
    refine ⟨(r.toNat, l), mem_packs.2 ⟨hk, q, hq, hql, h3⟩, ks, ?_, h4⟩
    dsimp only
    rw [Int.toNat_of_nonneg hr]
  · rintro ⟨p, hp, ts, rfl, h2⟩
    obtain ⟨_, q, hq, hql, h3⟩ := mem_packs.1 hp
    obtain ⟨h4, h5, _⟩ := ways_sound hS q.right k.fr k.to p.2 ts (hs q (List.mem_of_getElem? hq)) (by omega) h3 h2
    refine ⟨?_, ?_⟩
    · unfold vt
      rw [if_neg (by simp [hk])]
      exact ⟨rfl, by omega, q, by simpa using hq, hql, h4⟩
    · unfold yieldT
      rw [if_neg (by omega)]
      exact h5
theorem pack_uniq (hS : SndM g w T) (hs : ∀ q ∈ g.rules, ∀ s ∈ q.right, 0 ≤ s.n) {k : NKey} (hf : k.fr ≤ w.length) {p p' : Nat × List NKey} (hp : p ∈ packsL g w T k) (hp' : p' ∈ packsL g w T k) {ts ts' : List Tree} (h : TsAt g w p.2 ts) (h' : TsAt g w p'.2 ts') (e : (⟨(p.1 : Int), 0, ts⟩ : Tree) = ⟨(p'.1 : Int), 0, ts'⟩) : p = p' := by
  injection e with e1 _ e2
  subst e2
  obtain ⟨i, l⟩ := p
  obtain ⟨i', l'⟩ := p'
  have e3 : i = i' := by dsimp only at e1; omega
  subst e3
  obtain ⟨_, q, hq, _, h1⟩ := mem_packs.1 hp
  obtain ⟨_, q', hq', _, h2⟩ := mem_packs.1 hp'
  have e4 : q = q' := by rw [hq] at hq'; injection hq'
  subst e4
  rw [ways_uniq hS q.right k.fr k.to l l' ts (hs q (List.mem_of_getElem? hq)) hf h1 h2 h h']

/-! ### Counts -/
def lim : Nat := 1000000000
/-- The trees of a node are finitely many, and c is their number, limited. -/
def CntK (g : Gram) (w : List Int) (k : NKey) (c : Nat) : Prop := ∃ L : List Tree, L.Nodup ∧ (∀ t, t ∈ L ↔ TAt g w k t) ∧ c = min L.length lim
theorem min_mul (a b m : Nat) : min (min a m * min b m) m = min (a * b) m := by
  rcases Nat.le_total a m with ha | ha <;> rcases Nat.le_total b m with hb | hb
  · rw [Nat.min_eq_left ha, Nat.min_eq_left hb]
  · rw [Nat.min_eq_left ha, Nat.min_eq_right hb]
    rcases Nat.eq_zero_or_pos a with rfl | h
    · simp
    · rw [Nat.min_eq_right (Nat.le_mul_of_pos_left m h), Nat.min_eq_right (Nat.le_trans hb (Nat.le_mul_of_pos_left b h))]
  · rw [Nat.min_eq_right ha, Nat.min_eq_left hb]
    rcases Nat.eq_zero_or_pos b with rfl | h
    · simp
    · rw [Nat.min_eq_right (Nat.le_mul_of_pos_right m h), Nat.min_eq_right (Nat.le_trans ha (Nat.le_mul_of_pos_right a h))]
  · rw [Nat.min_eq_right ha, Nat.min_eq_right hb]
    rcases Nat.eq_zero_or_pos m with rfl | h
    · simp
    · rw [Nat.min_eq_right (Nat.le_mul_of_pos_left m h), Nat.min_eq_right (Nat.le_trans hb (Nat.le_mul_of_pos_left b (by omega)))]
theorem min_add (a b m : Nat) : min (min a m + min b m) m = min (a + b) m := by omega
/-- The product of counts, limited at each step. -/
def prodM (f : Nat → Nat) (x : Nat) (l : List Int) : Nat := l.foldl (fun x k => min (x * f k.toNat) lim) x
def sumM (f : Nat → Nat) (x : Nat) (l : List (List Int)) : Nat := l.foldl (fun a p => min (a + prodM f 1 p) lim) x
/-- Kids by their numbers. -/
def Kids (ks : List NKey) : List Int → List NKey → Prop
  | [], [] => True
  | i :: is, k :: l => 0 ≤ i ∧ ks[i.toNat]? = some k ∧ Kids ks is l
  | [], _ :: _ => False
  | _ :: _, [] => False
theorem Kids.get {ks : List NKey} : ∀ {is : List Int} {l : List NKey}, Kids ks is l → ∀ {k : NKey}, k ∈ l → ∃ i ∈ is, 0 ≤ i ∧ ks[i.toNat]? = some k
  | [], [], _, k, hk => by simp at hk
  | i :: is, k' :: l, h, k, hk => by
    unfold Kids at h
    rcases List.mem_cons.1 hk with rfl | hk
    · exact ⟨i, by simp, h.1, h.2.1⟩
    · obtain ⟨j, h1, h2⟩ := Kids.get h.2.2 hk
      exact ⟨j, by simp [h1], h2⟩
  | [], _ :: _, h, _, _ => by unfold Kids at h; exact h.elim
  | _ :: _, [], h, _, _ => by unfold Kids at h; exact h.elim
theorem Kids.get' {ks : List NKey} : ∀ {is : List Int} {l : List NKey}, Kids ks is l → ∀ {i : Int}, i ∈ is → ∃ k ∈ l, 0 ≤ i ∧ ks[i.toNat]? = some k
  | [], [], _, i, hi => by simp at hi
  | i :: is, k' :: l, h, j, hj => by
    unfold Kids at h
    rcases List.mem_cons.1 hj with rfl | hj
    · exact ⟨k', by simp, h.1, h.2.1⟩
    · obtain ⟨j', h1, h2⟩ := Kids.get' h.2.2 hj
      exact ⟨j', by simp [h1], h2⟩
  | [], _ :: _, h, _, _ => by unfold Kids at h; exact h.elim
  | _ :: _, [], h, _, _ => by unfold Kids at h; exact h.elim
theorem prod_trees {ks : List NKey} {f : Nat → Nat} : ∀ (is : List Int) (l : List NKey), Kids ks is l → (∀ i ∈ is, ∀ k, ks[i.toNat]? = some k → CntK g w k (f i.toNat)) →
    ∃ LL : List (List Tree), LL.Nodup ∧ (∀ ts, ts ∈ LL ↔ TsAt g w l ts) ∧ ∀ a, prodM f (min a lim) is = min (a * LL.length) lim
  | [], [], _, _ => ⟨[[]], by simp, fun ts => by cases ts <;> simp [TsAt], fun a => by simp [prodM]⟩
  | i :: is, k :: l, h, hc => by
    unfold Kids at h
    obtain ⟨L, h1, h2, h3⟩ := hc i (by simp) k h.2.1
    obtain ⟨LL, h4, h5, h6⟩ := prod_trees is l h.2.2 (fun j hj => hc j (by simp [hj]))
    refine ⟨L.flatMap fun t => LL.map (fun ts => t :: ts), ?_, fun ts => ?_, fun a => ?_⟩
    · rw [List.Nodup, List.pairwise_flatMap]
      refine ⟨fun t _ => nodup_map _ _ h4 (fun x _ y _ e => by injection e), ?_⟩
      refine List.Pairwise.imp ?_ h1
      intro a b hab x hx y hy e
      subst e
      obtain ⟨l1, _, rfl⟩ := List.mem_map.1 hx
      obtain ⟨l2, _, e⟩ := List.mem_map.1 hy
      injection e with e1 _
      exact hab e1.symm
    · rw [List.mem_flatMap]
      constructor
      · rintro ⟨t, ht, hts⟩
        obtain ⟨l1, h7, rfl⟩ := List.mem_map.1 hts
        unfold TsAt
        exact ⟨(h2 t).1 ht, (h5 l1).1 h7⟩
      · intro h7
        cases ts with
        | nil => unfold TsAt at h7; exact h7.elim
        | cons t ts =>
          unfold TsAt at h7
          exact ⟨t, (h2 t).2 h7.1, List.mem_map.2 ⟨ts, (h5 ts).2 h7.2, rfl⟩⟩
    · have hl : (L.flatMap fun t => LL.map (fun ts => t :: ts)).length = L.length * LL.length := by
        rw [List.length_flatMap]
        simp only [List.length_map]
        clear h1 h2 h3
        induction L with
        | nil => simp
        | cons x L ih => rw [List.map_cons, List.sum_cons, ih, List.length_cons, Nat.add_mul]; omega
      rw [hl]
      show prodM f (min (min a lim * f i.toNat) lim) is = _
      rw [h3, min_mul, h6, Nat.mul_assoc]
  | [], _ :: _, h, _ => by unfold Kids at h; exact h.elim
  | _ :: _, [], h, _ => by unfold Kids at h; exact h.elim

/-- The packs of a forest's node: a rule's number and the kids' numbers. -/
structure FPack where
  rule : Int
  kids : List Int
structure FNode where
  sym : Sym
  fr : Int
  to : Int
  packs : List FPack
def PackIs (ks : List NKey) (a : FPack) (b : Nat × List NKey) : Prop := a.rule = (b.1 : Int) ∧ Kids ks a.kids b.2
def PacksAre (ks : List NKey) : List FPack → List (Nat × List NKey) → Prop
  | [], [] => True
  | a :: al, b :: bs => PackIs ks a b ∧ PacksAre ks al bs
  | [], _ :: _ => False
  | _ :: _, [] => False
theorem PacksAre.get {ks : List NKey} : ∀ {al : List FPack} {bs : List (Nat × List NKey)}, PacksAre ks al bs → ∀ {a}, a ∈ al → ∃ b ∈ bs, PackIs ks a b
  | [], [], _, k, hk => by simp at hk
  | i :: is, k' :: l, h, k, hk => by
    unfold PacksAre at h
    rcases List.mem_cons.1 hk with rfl | hk
    · exact ⟨k', by simp, h.1⟩
    · obtain ⟨j, h1, h2⟩ := PacksAre.get h.2 hk
      exact ⟨j, by simp [h1], h2⟩
  | [], _ :: _, h, _, _ => by unfold PacksAre at h; exact h.elim
  | _ :: _, [], h, _, _ => by unfold PacksAre at h; exact h.elim
/-- A forest whose nodes are the given ones. -/
structure ForestIs (g : Gram) (w : List Int) (T : List (List Nat)) (ks : List NKey) (F : List FNode) : Prop where
  len : F.length = ks.length
  good : ∀ k ∈ ks, GoodK w T k
  node : ∀ (v : Nat) (k : NKey) (nd : FNode), ks[v]? = some k → F[v]? = some nd → nd.sym = k.sym ∧ ∃ pl, pl.Perm (packsL g w T k) ∧ PacksAre ks nd.packs pl
def valN (nd : FNode) (f : Nat → Nat) : Nat := sumM f (if nd.sym.term then 1 else 0) (nd.packs.map (·.kids))
/-- The count of a node. -/
inductive Cn (F : List FNode) : Nat → Nat → Prop
  | mk (v : Nat) (nd : FNode) (f : Nat → Nat) (hv : F[v]? = some nd) (h : ∀ p ∈ nd.packs, ∀ k ∈ p.kids, Cn F k.toNat (f k.toNat)) : Cn F v (valN nd f)
theorem sum_trees (hS : SndM g w T) (hs : ∀ q ∈ g.rules, ∀ s ∈ q.right, 0 ≤ s.n) {ks : List NKey} {f : Nat → Nat} {k : NKey} (hf : k.fr ≤ w.length) : ∀ (al : List FPack) (bs : List (Nat × List NKey)), PacksAre ks al bs → bs.Nodup → (∀ b ∈ bs, b ∈ packsL g w T k) →
    (∀ p ∈ al, ∀ i ∈ p.kids, ∀ k, ks[i.toNat]? = some k → CntK g w k (f i.toNat)) →
    ∃ L : List Tree, L.Nodup ∧ (∀ t, t ∈ L ↔ ∃ p ∈ bs, ∃ ts, t = ⟨(p.1 : Int), 0, ts⟩ ∧ TsAt g w p.2 ts) ∧ ∀ a, sumM f (min a lim) (al.map (·.kids)) = min (a + L.length) lim
  | [], [], _, _, _, _ => ⟨[], by simp, fun t => by simp, fun a => by simp [sumM]⟩
  | a :: al, b :: bs, h, hn, hb, hc => by
    unfold PacksAre at h
    rw [List.nodup_cons] at hn
    obtain ⟨L, h1, h2, h3⟩ := sum_trees hS hs hf al bs h.2 hn.2 (fun x hx => hb x (by simp [hx])) (fun p hp => hc p (by simp [hp]))
    obtain ⟨LL, h4, h5, h6⟩ := prod_trees a.kids b.2 h.1.2 (hc a (by simp))
    refine ⟨LL.map (fun ts => (⟨(b.1 : Int), 0, ts⟩ : Tree)) ++ L, ?_, fun t => ?_, fun x => ?_⟩
    · rw [List.nodup_append]
      refine ⟨nodup_map _ _ h4 (fun x _ y _ e => by injection e), h1, ?_⟩
      intro t ht u hu e
      subst e
      obtain ⟨ts, h7, rfl⟩ := List.mem_map.1 ht
      obtain ⟨p, hp, ts', e, h8⟩ := (h2 _).1 hu
      have := pack_uniq hS hs hf (hb b (by simp)) (hb p (by simp [hp])) ((h5 ts).1 h7) h8 e
      subst this
      exact hn.1 hp
    · rw [List.mem_append, h2]
      constructor
      · rintro (h7 | ⟨p, hp, h7⟩)
        · obtain ⟨ts, h8, rfl⟩ := List.mem_map.1 h7
          exact ⟨b, by simp, ts, rfl, (h5 ts).1 h8⟩
        · exact ⟨p, by simp [hp], h7⟩
      · rintro ⟨p, hp, ts, rfl, h7⟩
        rcases List.mem_cons.1 hp with rfl | hp
        · exact .inl (List.mem_map.2 ⟨ts, (h5 ts).2 h7, rfl⟩)
        · exact .inr ⟨p, hp, ts, rfl, h7⟩
    · have e1 := h6 1
      rw [show min 1 lim = 1 from rfl, Nat.one_mul] at e1
      show sumM f (min (min x lim + prodM f 1 a.kids) lim) (al.map (·.kids)) = _
      rw [e1, min_add, h3, List.length_append, List.length_map]
      congr 1
      omega
  | [], _ :: _, h, _, _, _ => by unfold PacksAre at h; exact h.elim
  | _ :: _, [], h, _, _, _ => by unfold PacksAre at h; exact h.elim
theorem leaf_at {k : NKey} (hk : k.sym.term = true) {t : Tree} (h : TAt g w k t) : t = ⟨-1, k.sym.n, []⟩ := by
  obtain ⟨r, tt, ks⟩ := t
  have h1 := h.1
  unfold vt at h1
  rw [if_pos hk] at h1
  obtain ⟨rfl, rfl, rfl⟩ := h1
  rfl
theorem cn_trees (hS : SndM g w T) (hc : ClM g w T) (hr : ∀ q ∈ g.rules, 0 ≤ q.left) (hs : ∀ q ∈ g.rules, ∀ s ∈ q.right, 0 ≤ s.n) {ks : List NKey} {F : List FNode} (hF : ForestIs g w T ks F) {v c : Nat} (h : Cn F v c) :
    ∀ k, ks[v]? = some k → CntK g w k c := by
  induction h with
  | mk v nd f hv h ih =>
    intro k hk
    obtain ⟨e1, pl, hp, hpa⟩ := hF.node v k nd hk hv
    have hg := hF.good k (List.mem_of_getElem? hk)
    have hf : k.fr ≤ w.length := Nat.le_trans hg.le hg.len
    by_cases ht : k.sym.term = true
    · have e2 : packsL g w T k = [] := by unfold packsL; rw [if_pos ht]
      rw [e2] at hp
      have e3 := hp.eq_nil
      subst e3
      have e4 : nd.packs = [] := by
        cases h5 : nd.packs with
        | nil => rfl
        | cons a al => rw [h5] at hpa; unfold PacksAre at hpa; exact hpa.elim
      obtain ⟨t, h6⟩ := hg.tree hS hr
      have h7 := leaf_at ht h6
      refine ⟨[t], by simp, fun u => ?_, ?_⟩
      · simp only [List.mem_singleton]
        constructor
        · rintro rfl; exact h6
        · intro h8; rw [leaf_at ht h8, h7]
      · unfold valN
        rw [e4, e1, if_pos ht]
        simp [sumM, lim]
    · have ht' : k.sym.term = false := by simpa using ht
      obtain ⟨L, h1, h2, h3⟩ := sum_trees hS hs hf nd.packs pl hpa (hp.nodup_iff.2 (packs_nodup k)) (fun b hb => hp.mem_iff.1 hb) (fun p hp i hi k' hk' => ih p hp i hi k' hk')
      refine ⟨L, h1, fun t => ?_, ?_⟩
      · rw [h2, tree_pack hS hc hs ht' hg.le hg.len]
        constructor
        · rintro ⟨p, h4, h5⟩; exact ⟨p, hp.mem_iff.1 h4, h5⟩
        · rintro ⟨p, h4, h5⟩; exact ⟨p, hp.mem_iff.2 h4, h5⟩
      · have h4 := h3 0
        unfold valN
        rw [e1, ht', if_neg (by simp)]
        rw [show min 0 lim = 0 from rfl, Nat.zero_add] at h4
        exact h4

/-! ### Cycles -/
def EdgeF (F : List FNode) (v u : Nat) : Prop := ∃ nd, F[v]? = some nd ∧ ∃ p ∈ nd.packs, ∃ k ∈ p.kids, k.toNat = u
/-- One step or more. -/
inductive RchF (F : List FNode) : Nat → Nat → Prop
  | one {v u : Nat} (h : EdgeF F v u) : RchF F v u
  | more {v u x : Nat} (h : EdgeF F v u) (k : RchF F u x) : RchF F v x
theorem RchF.snoc {F : List FNode} {v u x : Nat} (h : RchF F v u) (k : EdgeF F u x) : RchF F v x := by
  induction h with
  | one h => exact .more h (.one k)
  | more h _ ih => exact .more h (ih k)
theorem RchF.trans {F : List FNode} {v u x : Nat} (h : RchF F v u) (k : RchF F u x) : RchF F v x := by
  induction h with
  | one h => exact .more h k
  | more h _ ih => exact .more h (ih k)
/-- A cycle is reached from a node. -/
def CycAt (F : List FNode) (v : Nat) : Prop := ∃ u, (u = v ∨ RchF F v u) ∧ RchF F u u
theorem CycAt.up {F : List FNode} {v u : Nat} (h : EdgeF F v u) (k : CycAt F u) : CycAt F v := by
  obtain ⟨x, h1, h2⟩ := k
  refine ⟨x, .inr ?_, h2⟩
  rcases h1 with rfl | h1
  · exact .one h
  · exact .more h h1
theorem tsAt_swap (hS : SndM g w T) (hr : ∀ q ∈ g.rules, 0 ≤ q.left) : ∀ (l : List NKey), (∀ k ∈ l, GoodK w T k) → ∀ k ∈ l, ∀ x, TAt g w k x → ∃ ts, TsAt g w l ts ∧ nodesT x ≤ nodesL ts
  | [], _, k, hk, _, _ => by simp at hk
  | k' :: l, hg, k, hk, x, hx => by
    rcases List.mem_cons.1 hk with rfl | hk
    · have hts : ∃ ts, TsAt g w l ts := by
        clear hk hx
        have hg' : ∀ k ∈ l, GoodK w T k := fun a ha => hg a (by simp [ha])
        clear hg
        induction l with
        | nil => exact ⟨[], by unfold TsAt; trivial⟩
        | cons a l ih =>
          obtain ⟨ts, h⟩ := ih (fun b hb => hg' b (by simp [hb]))
          obtain ⟨t, ht⟩ := (hg' a (by simp)).tree hS hr
          exact ⟨t :: ts, by unfold TsAt; exact ⟨ht, h⟩⟩
      obtain ⟨ts, h⟩ := hts
      exact ⟨x :: ts, by unfold TsAt; exact ⟨hx, h⟩, by simp only [nodesL]; omega⟩
    · obtain ⟨ts, h1, h2⟩ := tsAt_swap hS hr l (fun a ha => hg a (by simp [ha])) k hk x hx
      obtain ⟨t, ht⟩ := (hg k' (by simp)).tree hS hr
      exact ⟨t :: ts, by unfold TsAt; exact ⟨ht, h1⟩, by simp only [nodesL]; omega⟩
theorem edge_grow (hS : SndM g w T) (hc : ClM g w T) (hr : ∀ q ∈ g.rules, 0 ≤ q.left) (hs : ∀ q ∈ g.rules, ∀ s ∈ q.right, 0 ≤ s.n) {ks : List NKey} {F : List FNode} (hF : ForestIs g w T ks F) {v u : Nat} (h : EdgeF F v u) {kv : NKey} (hv : ks[v]? = some kv) :
    ∃ ku, ks[u]? = some ku ∧ ∀ x, TAt g w ku x → ∃ y, TAt g w kv y ∧ nodesT x < nodesT y := by
  obtain ⟨nd, h1, p, hp, i, hi, rfl⟩ := h
  obtain ⟨_, pl, hpm, hpa⟩ := hF.node v kv nd hv h1
  obtain ⟨b, hb, hpi⟩ := hpa.get hp
  obtain ⟨ku, hku, hi0, hki⟩ := hpi.2.get' hi
  have hbp := hpm.mem_iff.1 hb
  obtain ⟨hkt, q, hq, _, hway⟩ := mem_packs.1 hbp
  have hg := hF.good kv (List.mem_of_getElem? hv)
  have hgl := way_good hS q.right kv.fr kv.to b.2 (hs q (List.mem_of_getElem? hq)) (Nat.le_trans hg.le hg.len) hway
  refine ⟨ku, hki, fun x hx => ?_⟩
  obtain ⟨ts, h2, h3⟩ := tsAt_swap hS hr b.2 hgl ku hku x hx
  refine ⟨⟨(b.1 : Int), 0, ts⟩, (tree_pack hS hc hs hkt hg.le hg.len _).2 ⟨b, hbp, ts, rfl, h2⟩, ?_⟩
  simp only [nodesT]
  omega
theorem rch_grow (hS : SndM g w T) (hc : ClM g w T) (hr : ∀ q ∈ g.rules, 0 ≤ q.left) (hs : ∀ q ∈ g.rules, ∀ s ∈ q.right, 0 ≤ s.n) {ks : List NKey} {F : List FNode} (hF : ForestIs g w T ks F) {v u : Nat} (h : RchF F v u) :
    ∀ kv, ks[v]? = some kv → ∃ ku, ks[u]? = some ku ∧ ∀ x, TAt g w ku x → ∃ y, TAt g w kv y ∧ nodesT x < nodesT y := by
  induction h with
  | one h => exact fun kv hv => edge_grow hS hc hr hs hF h hv
  | more h _ ih =>
    intro kv hv
    obtain ⟨k1, h1, h2⟩ := edge_grow hS hc hr hs hF h hv
    obtain ⟨k2, h3, h4⟩ := ih k1 h1
    refine ⟨k2, h3, fun x hx => ?_⟩
    obtain ⟨y, h5, h6⟩ := h4 x hx
    obtain ⟨z, h7, h8⟩ := h2 y h5
    exact ⟨z, h7, by omega⟩
theorem cyc_many (hS : SndM g w T) (hc : ClM g w T) (hr : ∀ q ∈ g.rules, 0 ≤ q.left) (hs : ∀ q ∈ g.rules, ∀ s ∈ q.right, 0 ≤ s.n) {ks : List NKey} {F : List FNode} (hF : ForestIs g w T ks F) {v : Nat} (h : CycAt F v) {kv : NKey} (hv : ks[v]? = some kv) :
    ∀ N : Nat, ∃ t, TAt g w kv t ∧ N ≤ nodesT t := by
  obtain ⟨u, h1, h2⟩ := h
  have key : ∀ ku, ks[u]? = some ku → ∀ N : Nat, ∃ t, TAt g w ku t ∧ N ≤ nodesT t := by
    intro ku hu N
    induction N with
    | zero =>
      obtain ⟨t, ht⟩ := (hF.good ku (List.mem_of_getElem? hu)).tree hS hr
      exact ⟨t, ht, Nat.zero_le _⟩
    | succ N ih =>
      obtain ⟨t, h3, h4⟩ := ih
      obtain ⟨k2, h5, h6⟩ := rch_grow hS hc hr hs hF h2 ku hu
      rw [hu] at h5
      injection h5 with h5
      subst h5
      obtain ⟨y, h7, h8⟩ := h6 t h3
      exact ⟨y, h7, by omega⟩
  rcases h1 with rfl | h1
  · exact key kv hv
  · intro N
    obtain ⟨ku, h3, h4⟩ := rch_grow hS hc hr hs hF h1 kv hv
    obtain ⟨t, h5, h6⟩ := key ku h3 N
    obtain ⟨y, h7, h8⟩ := h4 t h5
    exact ⟨y, h7, by omega⟩
/-- What Count answers of a forest whose root is the start symbol over the whole word. -/
theorem count_is (hS : SndM g w T) (hc : ClM g w T) (hr : ∀ q ∈ g.rules, 0 ≤ q.left) (hs : ∀ q ∈ g.rules, ∀ s ∈ q.right, 0 ≤ s.n) {ks : List NKey} {F : List FNode} (hF : ForestIs g w T ks F) {v : Nat} (hv : ks[v]? = some ⟨⟨false, g.start⟩, 0, w.length⟩) :
    (CycAt F v → CntIs (TreesOf g w) (-1)) ∧ ∀ c, Cn F v c → CntIs (TreesOf g w) (c : Int) := by
  have e : ∀ t, TAt g w ⟨⟨false, g.start⟩, 0, w.length⟩ t ↔ TreesOf g w t := fun t => by
    unfold TAt TreesOf
    dsimp only
    rw [segW_all]
  refine ⟨fun h => .inl ⟨rfl, fun N => ?_⟩, fun c h => .inr ?_⟩
  · obtain ⟨t, h1, h2⟩ := cyc_many hS hc hr hs hF h hv N
    exact ⟨t, (e t).1 h1, h2⟩
  · obtain ⟨L, h1, h2, h3⟩ := cn_trees hS hc hr hs hF h _ hv
    exact ⟨L, h1, fun t => (h2 t).trans (e t), by rw [h3]; rfl⟩
theorem count_none (h : ¬ DerW g [⟨false, g.start⟩] w) : CntIs (TreesOf g w) 0 := by
  refine .inr ⟨[], by simp, fun t => ?_, by simp⟩
  simp only [List.not_mem_nil, false_iff]
  rintro ⟨h1, h2⟩
  have h3 := der_of_tree t _ h1 [] [] .nil
  rw [List.append_nil, h2] at h3
  exact h h3
end
end Go.Proofs.YtjdojogjogenkaaDoor

/- The plain laws of closed.Star, Concat and Put: which words the combined grammars have. No program is named here. -/
namespace Go.Proofs.YtjdojogjogenkaaDoor
set_option linter.unusedVariables false

/-- Symbols go over into symbols, terminals into words. -/
theorem DerW.subst {g g' : Gram} (f : Sym → Sym) (σ : Int → List Int) (hT : ∀ n, DerW g' [f ⟨true, n⟩] (σ n)) (hN : ∀ q ∈ g.rules, ∃ q' ∈ g'.rules, f ⟨false, q.left⟩ = ⟨false, q'.left⟩ ∧ q'.right = q.right.map f) {ss : List Sym} {u : List Int} (h : DerW g ss u) : DerW g' (ss.map f) (u.flatMap σ) := by
  induction h with
  | nil => exact .nil
  | term n ss u _ ih =>
    rw [List.map_cons, List.flatMap_cons]
    exact DerW.append (ss := [f ⟨true, n⟩]) (hT n) ih
  | non q ss u v hq _ _ ih1 ih2 =>
    obtain ⟨q', hq', e1, e2⟩ := hN q hq
    rw [List.map_cons, List.flatMap_append, e1]
    exact .non q' _ _ _ hq' (by rw [e2]; exact ih1) ih2
theorem flatMap_one : ∀ (u : List Int), (u.flatMap fun x => [x]) = u
  | [] => rfl
  | x :: u => by rw [List.flatMap_cons, flatMap_one u]; rfl
theorem DerW.map {g g' : Gram} (f : Sym → Sym) (hT : ∀ n, f ⟨true, n⟩ = ⟨true, n⟩) (hN : ∀ q ∈ g.rules, ∃ q' ∈ g'.rules, f ⟨false, q.left⟩ = ⟨false, q'.left⟩ ∧ q'.right = q.right.map f) {ss : List Sym} {u : List Int} (h : DerW g ss u) : DerW g' (ss.map f) u := by
  have := DerW.subst f (fun x => [x]) (fun n => by rw [hT]; exact .term n [] [] .nil) hN h
  rwa [flatMap_one] at this
/-- And back, where the rules of what comes of a symbol are the symbol's own. -/
theorem DerW.unmap {g g' : Gram} (f : Sym → Sym) (P : Sym → Prop) (hT : ∀ s n, P s → f s = ⟨true, n⟩ → s = ⟨true, n⟩) (hN : ∀ q' ∈ g'.rules, ∀ s, P s → f s = ⟨false, q'.left⟩ → ∃ q ∈ g.rules, s = ⟨false, q.left⟩ ∧ q'.right = q.right.map f ∧ ∀ x ∈ q.right, P x) {ss' : List Sym} {u : List Int} (h : DerW g' ss' u) :
    ∀ ss, ss' = ss.map f → (∀ s ∈ ss, P s) → DerW g ss u := by
  induction h with
  | nil =>
    intro ss e _
    cases ss with
    | nil => exact .nil
    | cons s ss => simp at e
  | term n rr u _ ih =>
    intro ss e hP
    cases ss with
    | nil => simp at e
    | cons s ss =>
      rw [List.map_cons] at e
      injection e with e1 e2
      rw [hT s n (hP s (by simp)) e1.symm]
      exact .term n _ _ (ih ss e2 (fun x hx => hP x (by simp [hx])))
  | non q' rr u v hq _ _ ih1 ih2 =>
    intro ss e hP
    cases ss with
    | nil => simp at e
    | cons s ss =>
      rw [List.map_cons] at e
      injection e with e1 e2
      obtain ⟨q, hq1, rfl, hq2, hq3⟩ := hN q' hq s (hP s (by simp)) e1.symm
      exact .non q _ _ _ hq1 (ih1 q.right hq2 hq3) (ih2 ss e2 (fun x hx => hP x (by simp [hx])))

/-! ### Shifting nonterminals -/
def shS (k : Int) (s : Sym) : Sym := if s.term then s else ⟨false, s.n + k⟩
def shR (k : Int) (q : Rule) : Rule := ⟨q.left + k, q.right.map (shS k)⟩
def NonIn (n : Int) (s : Sym) : Prop := s.term = false → 0 ≤ s.n ∧ s.n < n
/-- The rules are of the nonterminals 0 .. n-1. -/
def InN (g : Gram) (n : Int) : Prop := ∀ q ∈ g.rules, (0 ≤ q.left ∧ q.left < n) ∧ ∀ s ∈ q.right, NonIn n s
theorem shS_term (k n : Int) : shS k ⟨true, n⟩ = ⟨true, n⟩ := by simp [shS]
theorem shS_non (k n : Int) : shS k ⟨false, n⟩ = ⟨false, n + k⟩ := by simp [shS]
/-- A grammar whose rules with a left side among k .. k+n-1 are the shifted ones of g. -/
structure Part (g g' : Gram) (k n : Int) : Prop where
  there : ∀ q ∈ g.rules, shR k q ∈ g'.rules
  back : ∀ q' ∈ g'.rules, k ≤ q'.left → q'.left < k + n → ∃ q ∈ g.rules, q' = shR k q
theorem Part.der {g g' : Gram} {k n : Int} (h : Part g g' k n) (hg : InN g n) {a : Int} (ha : 0 ≤ a) (han : a < n) (u : List Int) : DerW g' [⟨false, a + k⟩] u ↔ DerW g [⟨false, a⟩] u := by
  constructor
  · intro hd
    refine DerW.unmap (shS k) (NonIn n) (fun s m hs e => ?_) (fun q' hq' s hs e => ?_) hd [⟨false, a⟩] (by simp [shS]) (fun s hs => ?_)
    · obtain ⟨st, sn⟩ := s
      cases st
      · rw [shS_non] at e; injection e with e _; cases e
      · rw [shS_term] at e; exact e
    · obtain ⟨st, sn⟩ := s
      cases st
      · rw [shS_non] at e
        injection e with _ e
        have h1 := hs rfl
        dsimp only at h1
        obtain ⟨q, hq, rfl⟩ := h.back q' hq' (by omega) (by omega)
        refine ⟨q, hq, ?_, rfl, (hg q hq).2⟩
        have e' : sn + k = q.left + k := e
        rw [show sn = q.left by omega]
      · rw [shS_term] at e; injection e with e _; cases e
    · simp at hs
      subst hs
      exact fun _ => ⟨ha, han⟩
  · intro hd
    have := DerW.map (g' := g') (shS k) (shS_term k) (fun q hq => ⟨shR k q, h.there q hq, shS_non k q.left, rfl⟩) hd
    simpa [shS] using this

/-! ### Star -/
def starG (a : Gram) : Gram := ⟨a.terms, a.nons + 1, a.nons, a.rules.map (shR 0) ++ [⟨a.nons, []⟩, ⟨a.nons, [⟨false, a.nons⟩, ⟨false, a.start⟩]⟩]⟩
def StarW (a : Gram) (w : List Int) : Prop := w = [] ∨ ∃ k, k < w.length ∧ DerW (starG a) [⟨false, a.nons⟩] (w.take k) ∧ DerW a [⟨false, a.start⟩] (w.drop k)
theorem star_part {a : Gram} (ha : InN a a.nons) : Part a (starG a) 0 a.nons := by
  refine ⟨fun q hq => ?_, fun q' hq' h1 h2 => ?_⟩
  · unfold starG
    exact List.mem_append_left _ (List.mem_map_of_mem hq)
  · unfold starG at hq'
    rcases List.mem_append.1 hq' with h | h
    · obtain ⟨q, hq, rfl⟩ := List.mem_map.1 h
      exact ⟨q, hq, rfl⟩
    · simp at h
      rcases h with rfl | rfl
      · dsimp only at h2; omega
      · dsimp only at h2; omega
theorem star_to {a : Gram} (ha : InN a a.nons) (hs : 0 ≤ a.start ∧ a.start < a.nons) {ss : List Sym} {u : List Int} (h : DerW (starG a) ss u) : ∀ rest, ss = ⟨false, a.nons⟩ :: rest → ∃ v x, u = v ++ x ∧ DerW (starG a) [⟨false, a.nons⟩] v ∧ StarW a v ∧ DerW (starG a) rest x := by
  induction h with
  | nil => intro rest e; simp at e
  | term n ss u _ _ => intro rest e; injection e with e _; injection e with e _; cases e
  | non q ss u v hq h1 h2 ih1 ih2 =>
    intro rest e
    injection e with e1 e2
    injection e1 with _ e1
    subst e2
    refine ⟨u, v, rfl, ?_, ?_, h2⟩
    · have := DerW.non q [] u [] hq h1 .nil
      rw [List.append_nil, e1] at this
      exact this
    · unfold starG at hq
      rcases List.mem_append.1 hq with hm | hm
      · obtain ⟨q0, hq0, rfl⟩ := List.mem_map.1 hm
        have := (ha q0 hq0).1
        unfold shR at e1
        dsimp only at e1
        omega
      · simp at hm
        rcases hm with rfl | rfl
        · cases h1
          exact .inl rfl
        · obtain ⟨v', x, rfl, d1, d2, d3⟩ := ih1 [⟨false, a.start⟩] rfl
          have d4 : DerW a [⟨false, a.start⟩] x := by
            have := (star_part ha).der ha hs.1 hs.2 x
            rw [Int.add_zero] at this
            exact this.1 d3
          by_cases hx : x = []
          · subst hx
            rw [List.append_nil]
            exact d2
          · refine .inr ⟨v'.length, ?_, ?_, ?_⟩
            · rw [List.length_append]
              have : 0 < x.length := List.length_pos_iff.2 hx
              omega
            · rw [List.take_left]; exact d1
            · rw [List.drop_left]; exact d4
theorem star_iff {a : Gram} (ha : InN a a.nons) (hs : 0 ≤ a.start ∧ a.start < a.nons) (w : List Int) : DerW (starG a) [⟨false, a.nons⟩] w ↔ StarW a w := by
  constructor
  · intro h
    obtain ⟨v, x, rfl, _, h2, h3⟩ := star_to ha hs h [] rfl
    cases h3
    rw [List.append_nil]
    exact h2
  · rintro (rfl | ⟨k, hk, h1, h2⟩)
    · exact DerW.one.2 ⟨⟨a.nons, []⟩, by simp [starG], rfl, .nil⟩
    · refine DerW.one.2 ⟨⟨a.nons, [⟨false, a.nons⟩, ⟨false, a.start⟩]⟩, by simp [starG], rfl, ?_⟩
      have h3 : DerW (starG a) [⟨false, a.start⟩] (w.drop k) := by
        have := (star_part ha).der ha hs.1 hs.2 (w.drop k)
        rw [Int.add_zero] at this
        exact this.2 h2
      have := DerW.append h1 h3
      rwa [List.take_append_drop] at this

/-! ### Concat -/
def concatG (a b : Gram) : Gram := ⟨a.terms, a.nons + b.nons + 1, a.nons + b.nons, a.rules.map (shR 0) ++ b.rules.map (shR a.nons) ++ [⟨a.nons + b.nons, [⟨false, a.start⟩, ⟨false, a.nons + b.start⟩]⟩]⟩
theorem concat_part1 {a b : Gram} (ha : InN a a.nons) (hb : InN b b.nons) (hn : 0 ≤ b.nons) : Part a (concatG a b) 0 a.nons := by
  refine ⟨fun q hq => ?_, fun q' hq' h1 h2 => ?_⟩
  · unfold concatG
    exact List.mem_append_left _ (List.mem_append_left _ (List.mem_map_of_mem hq))
  · unfold concatG at hq'
    rcases List.mem_append.1 hq' with h | h
    · rcases List.mem_append.1 h with h | h
      · obtain ⟨q, hq, rfl⟩ := List.mem_map.1 h
        exact ⟨q, hq, rfl⟩
      · obtain ⟨q, hq, rfl⟩ := List.mem_map.1 h
        have := (hb q hq).1
        unfold shR at h2
        dsimp only at h2
        omega
    · simp at h
      subst h
      dsimp only at h2
      omega
theorem concat_part2 {a b : Gram} (ha : InN a a.nons) (hb : InN b b.nons) : Part b (concatG a b) a.nons b.nons := by
  refine ⟨fun q hq => ?_, fun q' hq' h1 h2 => ?_⟩
  · unfold concatG
    exact List.mem_append_left _ (List.mem_append_right _ (List.mem_map_of_mem hq))
  · unfold concatG at hq'
    rcases List.mem_append.1 hq' with h | h
    · rcases List.mem_append.1 h with h | h
      · obtain ⟨q, hq, rfl⟩ := List.mem_map.1 h
        have := (ha q hq).1
        unfold shR at h1
        dsimp only at h1
        omega
      · obtain ⟨q, hq, rfl⟩ := List.mem_map.1 h
        exact ⟨q, hq, rfl⟩
    · simp at h
      subst h
      dsimp only at h2
      omega
theorem concat_iff {a b : Gram} (ha : InN a a.nons) (hb : InN b b.nons) (hsa : 0 ≤ a.start ∧ a.start < a.nons) (hsb : 0 ≤ b.start ∧ b.start < b.nons) (w : List Int) :
    DerW (concatG a b) [⟨false, a.nons + b.nons⟩] w ↔ ∃ k, k ≤ w.length ∧ DerW a [⟨false, a.start⟩] (w.take k) ∧ DerW b [⟨false, b.start⟩] (w.drop k) := by
  have p1 := fun u => (concat_part1 ha hb (by omega)).der ha hsa.1 hsa.2 u
  have p2 := fun u => (concat_part2 ha hb).der hb hsb.1 hsb.2 u
  constructor
  · intro h
    obtain ⟨q, hq, hl, hd⟩ := DerW.one.1 h
    unfold concatG at hq
    rcases List.mem_append.1 hq with hm | hm
    · rcases List.mem_append.1 hm with hm | hm
      · obtain ⟨q0, hq0, rfl⟩ := List.mem_map.1 hm
        have := (ha q0 hq0).1
        unfold shR at hl
        dsimp only at hl
        omega
      · obtain ⟨q0, hq0, rfl⟩ := List.mem_map.1 hm
        have := (hb q0 hq0).1
        unfold shR at hl
        dsimp only at hl
        omega
    · simp at hm
      subst hm
      obtain ⟨v, x, rfl, h1, h2⟩ := DerW.cons2.1 hd
      refine ⟨v.length, by simp, ?_, ?_⟩
      · rw [List.take_left]
        have := p1 v
        rw [Int.add_zero] at this
        exact this.1 h1
      · rw [List.drop_left]
        have := p2 x
        rw [Int.add_comm] at this
        exact this.1 h2
  · rintro ⟨k, hk, h1, h2⟩
    refine DerW.one.2 ⟨⟨a.nons + b.nons, [⟨false, a.start⟩, ⟨false, a.nons + b.start⟩]⟩, by simp [concatG], rfl, ?_⟩
    have h3 := p1 (w.take k)
    rw [Int.add_zero] at h3
    have h4 := p2 (w.drop k)
    rw [Int.add_comm b.start] at h4
    have := DerW.append (h3.2 h1) (h4.2 h2)
    rwa [List.take_append_drop] at this

/-! ### Put -/
def putS (t m : Int) (s : Sym) : Sym := if s = ⟨true, t⟩ then ⟨false, m⟩ else s
def putR (t m : Int) (q : Rule) : Rule := ⟨q.left, q.right.map (putS t m)⟩
def putG (a : Gram) (t : Int) (b : Gram) : Gram := ⟨a.terms, a.nons + b.nons, a.start, (a.rules.map (shR 0)).map (putR t (a.nons + b.start)) ++ b.rules.map (shR a.nons)⟩
theorem put_part2 {a b : Gram} (t : Int) (ha : InN a a.nons) (hb : InN b b.nons) : Part b (putG a t b) a.nons b.nons := by
  refine ⟨fun q hq => ?_, fun q' hq' h1 h2 => ?_⟩
  · unfold putG
    exact List.mem_append_right _ (List.mem_map_of_mem hq)
  · unfold putG at hq'
    rcases List.mem_append.1 hq' with h | h
    · obtain ⟨q1, hq1, rfl⟩ := List.mem_map.1 h
      obtain ⟨q, hq, rfl⟩ := List.mem_map.1 hq1
      have := (ha q hq).1
      unfold putR shR at h1
      dsimp only at h1
      omega
    · obtain ⟨q, hq, rfl⟩ := List.mem_map.1 h
      exact ⟨q, hq, rfl⟩
theorem put_der {a b : Gram} {t : Int} (ha : InN a a.nons) (hb : InN b b.nons) (hsb : 0 ≤ b.start ∧ b.start < b.nons) {y u : List Int} (hu : DerW b [⟨false, b.start⟩] u) (hy : DerW a [⟨false, a.start⟩] y) :
    DerW (putG a t b) [⟨false, a.start⟩] (y.flatMap fun x => if x = t then u else [x]) := by
  have h1 : DerW (putG a t b) [⟨false, a.nons + b.start⟩] u := by
    have := (put_part2 t ha hb).der hb hsb.1 hsb.2 u
    rw [Int.add_comm] at this
    exact this.2 hu
  have h2 := DerW.subst (g' := putG a t b) (fun s => putS t (a.nons + b.start) (shS 0 s)) (fun x => if x = t then u else [x]) (fun n => by
    rw [shS_term]
    unfold putS
    by_cases e : n = t
    · subst e; simp [h1]
    · rw [if_neg (by simp [e]), if_neg e]
      exact .term n [] [] .nil) (fun q hq => ⟨putR t (a.nons + b.start) (shR 0 q), by unfold putG; exact List.mem_append_left _ (List.mem_map_of_mem (List.mem_map_of_mem hq)), by rw [shS_non]; simp [putS, putR, shR], by simp [putR, shR]⟩) hy
  simpa [shS, putS] using h2
end Go.Proofs.YtjdojogjogenkaaDoor

/- The index of the first element that a predicate takes; a function's number that is entered by a call through a value. -/
namespace Go.Proofs.YtjdojogjogenkaaDoor
open Go.RowKit

def idxI {α : Type} (p : α → Bool) (xs : List α) : Int := if xs.any p then (xs.findIdx p : Nat) else -1
theorem idxI_hit {α : Type} {p : α → Bool} {xs : List α} {k : Nat} {x : α} (hx : xs[k]? = some x) (hp : p x = true) (hno : ∀ y ∈ xs.take k, p y = false) : idxI p xs = k := by
  have hlt := (List.getElem?_eq_some_iff.1 hx).1
  have hm : x ∈ xs := List.mem_of_getElem? hx
  have ha : xs.any p = true := List.any_eq_true.2 ⟨x, hm, hp⟩
  rw [idxI, if_pos ha]
  congr 1
  have e : xs = xs.take k ++ x :: xs.drop (k + 1) := by rw [← drop_cons hx, List.take_append_drop]
  have h1 : (xs.take k).length = k := by simp; omega
  rw [e, List.findIdx_append, if_neg (by rw [h1]; intro h; have := List.findIdx_lt_length.1 (by rw [h1]; exact h : (xs.take k).findIdx p < (xs.take k).length); obtain ⟨y, hy, hpy⟩ := this; rw [hno y hy] at hpy; cases hpy)]
  rw [List.findIdx_cons, hp, h1]; simp
theorem idxI_none {α : Type} {p : α → Bool} {xs : List α} (hno : ∀ y ∈ xs, p y = false) : idxI p xs = -1 := by
  rw [idxI, if_neg]
  intro h
  obtain ⟨y, hy, hp⟩ := List.any_eq_true.1 h
  rw [hno y hy] at hp; cases hp
theorem idxI_nonneg {α : Type} (p : α → Bool) (xs : List α) : decide (0 ≤ idxI p xs) = xs.any p := by
  unfold idxI; split
  · rename_i h; rw [h]; simp
  · rename_i h; simp only [Bool.not_eq_true] at h; rw [h]; rfl
def IsGo (F : Nat) : Prop := ∀ (args : Array Value) (W : World), (callFunc F args).run Tryd.prog W = .ok (.enter F args) W
theorem isGo_of {F : Nat} {fn : Func} (hf : Tryd.prog.funcs[F]? = some fn) (h1 : (fn.name == "runtime.NumGoroutine") = false) (h2 : fn.body.isNone = false) : IsGo F := by
  intro args W
  have h1' : ¬ fn.name = "runtime.NumGoroutine" := by simpa using h1
  have h2' : ¬ fn.body = none := by intro e; rw [e] at h2; cases h2
  simp [callFunc, program, Sem.run, hf, h1', h2']

end Go.Proofs.YtjdojogjogenkaaDoor

/- A world that has kept all its blocks but those of a set. No program is named here. -/
namespace Go.Proofs.YtjdojogjogenkaaDoor
open Go.RowKit
set_option linter.unusedVariables false

/-- w' is w with new blocks, and with writes to blocks of X alone. -/
structure Kept (X : Nat → Prop) (w w' : World) : Prop where
  os : w'.os = w.os
  tape : w'.tape = w.tape
  output : w'.output = w.output
  size : w.heap.size ≤ w'.heap.size
  block : ∀ k, k < w.heap.size → ¬ X k → w'.heap[k]? = w.heap[k]?
section
variable {X Y : Nat → Prop} {w w' w'' : World}
theorem Kept.refl (X : Nat → Prop) (w : World) : Kept X w w := ⟨rfl, rfl, rfl, Nat.le_refl _, fun _ _ _ => rfl⟩
theorem Kept.trans (h : Kept X w w') (k : Kept X w' w'') : Kept X w w'' :=
  ⟨k.os.trans h.os, k.tape.trans h.tape, k.output.trans h.output, Nat.le_trans h.size k.size, fun i hi hx => (k.block i (Nat.lt_of_lt_of_le hi h.size) hx).trans (h.block i hi hx)⟩
theorem Kept.mono (h : Kept X w w') (hx : ∀ b, b < w.heap.size → X b → Y b) : Kept Y w w' := ⟨h.os, h.tape, h.output, h.size, fun k hk hy => h.block k hk (fun hb => hy (hx k hk hb))⟩
theorem Kept.of_below (X : Nat → Prop) (h : Below w.heap.size w w') : Kept X w w' := ⟨h.os, h.tape, h.output, h.size, fun k hk _ => h.block k hk⟩
theorem Kept.of_grown {row : Option Nat} (h : w.grownBy w' row) (hX : ∀ k, row = some k → X k) : Kept X w w' := ⟨h.os, h.tape, h.output, h.size, fun k hk hx => h.block k hk (fun e => hx (hX k e.symm))⟩
theorem Kept.alloc (h : Kept X w w') (o : Obj) : Kept X w (w'.alloc o) := h.trans (Kept.of_below X ((Below.refl _ _).alloc (Nat.le_refl _) o))
theorem Kept.drew (h : Kept X w w') : Kept X w w'.drew := ⟨h.os, h.tape, h.output, h.size, h.block⟩
theorem Kept.below (h : Kept X w w') (k : Below w'.heap.size w' w'') : Kept X w w'' := h.trans (Kept.of_below X k)
theorem Kept.grown {row : Option Nat} (h : Kept X w w') (k : w'.grownBy w'' row) (hX : ∀ k, row = some k → X k ∨ w.heap.size ≤ k) : Kept X w w'' :=
  ⟨k.os.trans h.os, k.tape.trans h.tape, k.output.trans h.output, Nat.le_trans h.size k.size, fun i hi hx => (k.block i (Nat.lt_of_lt_of_le hi h.size) (fun e => by
    rcases hX i e.symm with q | q
    · exact hx q
    · omega)).trans (h.block i hi hx)⟩
theorem Kept.setCell (h : Kept X w w') {p : Addr} (hp : X p.block ∨ w.heap.size ≤ p.block) (u : Value) : Kept X w (w'.setCell p u) :=
  ⟨h.os, h.tape, h.output, by simpa [World.setCell] using h.size, fun i hi hx => (Below.heap_setCell _ _ _ _ (by
    rintro rfl
    rcases hp with q | q
    · exact hx q
    · omega)).trans (h.block i hi hx)⟩
theorem Kept.to_below {B : Nat} (h : Kept X w w') (hX : ∀ b, X b → B ≤ b) (hB : B ≤ w.heap.size) : Below B w w' :=
  ⟨h.os, h.tape, h.output, h.size, fun k hk => h.block k (by omega) (fun hx => by have := hX k hx; omega)⟩
theorem Kept.later (h : Kept X w w') (k : Kept Y w' w'') (hY : ∀ b, Y b → X b ∨ w.heap.size ≤ b) : Kept X w w'' :=
  ⟨k.os.trans h.os, k.tape.trans h.tape, k.output.trans h.output, Nat.le_trans h.size k.size, fun i hi hx => (k.block i (Nat.lt_of_lt_of_le hi h.size) (fun hy => by
    rcases hY i hy with q | q
    · exact hx q
    · omega)).trans (h.block i hi hx)⟩
theorem Kept.undrew {w : World} (h : Kept X w.drew w') : Kept X w w' := ⟨h.os, h.tape, h.output, h.size, h.block⟩
theorem Kept.cell {p : Addr} (h : Kept X w w') (hp : p.block < w.heap.size) (hx : ¬ X p.block) : w'.cell? p = w.cell? p := World.cell?_of_block (h.block p.block hp hx)
theorem Blk'.kept {g : Nat} {t : TypeId} {cs : Array Value} (h : Blk' w g t cs) (k : Kept X w w') (hx : ¬ X g) : Blk' w' g t cs := (k.block g h.lt hx).trans h
theorem Els.kept {α : Type} [Dat α] {S : Nat → Prop} {xs : List α} {A : Option Addr} (h : Els w S xs A) (k : Kept X w w') (hx : ∀ b, S b → ¬ X b) : Els w' S xs A :=
  h.keep (fun p hs hp => k.cell hp (hx _ hs)) (fun _ h => h)
theorem Vl.kept {α : Type} [Dat α] {S : Nat → Prop} {x : α} {v : Value} (h : Vl w S x v) (k : Kept X w w') (hx : ∀ b, S b → ¬ X b) : Vl w' S x v :=
  h.keep (fun p hs hp => k.cell hp (hx _ hs)) (fun _ h => h)
theorem Own.kept {α : Type} [Dat α] {S : Nat → Prop} {base : Nat} {e : TypeId} {v : Value} {xs : List α} (h : Own w S base e v xs) (k : Kept X w w') (hx : ∀ b, X b → ¬ (S b ∨ base ≤ b)) : Own w' S base e v xs := by
  obtain ⟨css, h1, h2, h3⟩ := h
  have hg : ∀ g, v.ownBlock = some g → w'.heap[g]? = w.heap[g]? := fun g hg => k.block g (h1.lt g hg).2 (fun hX => hx g hX (.inr (h1.lt g hg).1))
  refine ⟨css, ?_, h2, fun i x cs hi hc => Dat.keep (fun p hp hlt => k.cell hlt (fun hX => hx _ hX hp.1)) (fun b hb => ⟨hb.1, hb.2.1, Nat.lt_of_lt_of_le hb.2.2 k.size⟩) (h3 i x cs hi hc)⟩
  refine ⟨h1.1, ?_⟩
  rcases h1.2 with q | ⟨g, cap, cur, q1, q2, q3, q4⟩
  · exact .inl q
  · exact .inr ⟨g, cap, cur, q1, q2, (hg g (by rw [q1]; rfl)).trans q3, q4⟩
end
end Go.Proofs.YtjdojogjogenkaaDoor

/- The data of forests: nodes' keys, packs with keys, packs, nodes; how they read in memory. -/
namespace Go.Proofs.YtjdojogjogenkaaDoor
open Go.RowKit
set_option linter.unusedVariables false

def KeyOk (k : NKey) : Prop := I64 k.sym.n ∧ k.fr ≤ 9223372036854775807 ∧ k.to ≤ 9223372036854775807
def keyC (k : NKey) : List Value := [.bool k.sym.term, .int .i64 k.sym.n, .int .i64 k.fr, .int .i64 k.to]
instance instDatKey : Dat NKey where
  size := 4
  wraps := true
  rd _ _ k cs := cs = [.bool k.sym.term, .int .i64 k.sym.n, .int .i64 k.fr, .int .i64 k.to] ∧ KeyOk k
  len h := by rw [h.1]; rfl
  pos := by decide
  flat h := by simp at h
  one h := by rw [h.1]; intro u hu; simp at hu; rcases hu with rfl | rfl | rfl | rfl <;> rfl
  keep _ _ h := h
structure KPack where
  rule : Nat
  kids : List NKey
instance instDatKPack : Dat KPack where
  size := 2
  wraps := true
  rd w S r cs := ∃ v, cs = [.int .i64 r.rule, v] ∧ I64 r.rule ∧ Vl w S r.kids v
  len h := by obtain ⟨v, rfl, _⟩ := h; rfl
  pos := by decide
  flat h := by simp at h
  one h := by
    obtain ⟨v, rfl, _, hv⟩ := h
    obtain ⟨A, c, rfl, _⟩ := hv.slice
    intro u hu; simp at hu; rcases hu with rfl | rfl <;> rfl
  keep hk hS h := by obtain ⟨v, h1, h2, h3⟩ := h; exact ⟨v, h1, h2, h3.keep hk hS⟩
instance instDatFPack : Dat FPack where
  size := 2
  wraps := true
  rd w S r cs := ∃ v, cs = [.int .i64 r.rule, v] ∧ I64 r.rule ∧ Vl w S r.kids v
  len h := by obtain ⟨v, rfl, _⟩ := h; rfl
  pos := by decide
  flat h := by simp at h
  one h := by
    obtain ⟨v, rfl, _, hv⟩ := h
    obtain ⟨A, c, rfl, _⟩ := hv.slice
    intro u hu; simp at hu; rcases hu with rfl | rfl <;> rfl
  keep hk hS h := by obtain ⟨v, h1, h2, h3⟩ := h; exact ⟨v, h1, h2, h3.keep hk hS⟩
instance instDatFNode : Dat FNode where
  size := 5
  wraps := true
  rd w S r cs := ∃ v, cs = [.bool r.sym.term, .int .i64 r.sym.n, .int .i64 r.fr, .int .i64 r.to, v] ∧ I64 r.sym.n ∧ I64 r.fr ∧ I64 r.to ∧ Vl w S r.packs v
  len h := by obtain ⟨v, rfl, _⟩ := h; rfl
  pos := by decide
  flat h := by simp at h
  one h := by
    obtain ⟨v, rfl, _, _, _, hv⟩ := h
    obtain ⟨A, c, rfl, _⟩ := hv.slice
    intro u hu; simp at hu; rcases hu with rfl | rfl | rfl | rfl | rfl <;> rfl
  keep hk hS h := by obtain ⟨v, h1, h2, h3, h4, h5⟩ := h; exact ⟨v, h1, h2, h3, h4, h5.keep hk hS⟩
section
variable {w : World} {S : Nat → Prop} {A : Option Addr} {k : Nat}
theorem Els.nkey {xs : List NKey} {x : NKey} (h : Els w S xs A) (hk : xs[k]? = some x) :
    ∃ b o, A = some ⟨b, o, none⟩ ∧ S b ∧ b < w.heap.size ∧ KeyOk x ∧ w.cell? ⟨b, o + k * 4, none⟩ = some (.bool x.sym.term) ∧ w.cell? ⟨b, o + k * 4 + 1, none⟩ = some (.int .i64 x.sym.n) ∧ w.cell? ⟨b, o + k * 4 + 2, none⟩ = some (.int .i64 x.fr) ∧ w.cell? ⟨b, o + k * 4 + 3, none⟩ = some (.int .i64 x.to) := by
  obtain ⟨b, o, cs, hA, hS, hb, ⟨rfl, h1⟩, hc⟩ := h.at_ hk
  exact ⟨b, o, hA, hS, hb, h1, hc.c0, hc.c1, hc 2 _ rfl, hc 3 _ rfl⟩
theorem Els.kpack {xs : List KPack} {x : KPack} (h : Els w S xs A) (hk : xs[k]? = some x) :
    ∃ b o A' c, A = some ⟨b, o, none⟩ ∧ S b ∧ b < w.heap.size ∧ I64 x.rule ∧ x.kids.length ≤ c ∧ c ≤ 9223372036854775807 ∧ Els w S x.kids A' ∧ w.cell? ⟨b, o + k * 2, none⟩ = some (.int .i64 x.rule) ∧ w.cell? ⟨b, o + k * 2 + 1, none⟩ = some (.slice A' x.kids.length c) := by
  obtain ⟨b, o, cs, hA, hS, hb, ⟨v, rfl, h1, hv⟩, hc⟩ := h.at_ hk
  obtain ⟨A', c, rfl, h2, h3, h4⟩ := hv.slice
  exact ⟨b, o, A', c, hA, hS, hb, h1, h2, h3, h4, hc.c0, hc.c1⟩
theorem Els.fpack {xs : List FPack} {x : FPack} (h : Els w S xs A) (hk : xs[k]? = some x) :
    ∃ b o A' c, A = some ⟨b, o, none⟩ ∧ S b ∧ b < w.heap.size ∧ I64 x.rule ∧ x.kids.length ≤ c ∧ c ≤ 9223372036854775807 ∧ Els w S x.kids A' ∧ w.cell? ⟨b, o + k * 2, none⟩ = some (.int .i64 x.rule) ∧ w.cell? ⟨b, o + k * 2 + 1, none⟩ = some (.slice A' x.kids.length c) := by
  obtain ⟨b, o, cs, hA, hS, hb, ⟨v, rfl, h1, hv⟩, hc⟩ := h.at_ hk
  obtain ⟨A', c, rfl, h2, h3, h4⟩ := hv.slice
  exact ⟨b, o, A', c, hA, hS, hb, h1, h2, h3, h4, hc.c0, hc.c1⟩
theorem Els.fnode {xs : List FNode} {x : FNode} (h : Els w S xs A) (hk : xs[k]? = some x) :
    ∃ b o A' c, A = some ⟨b, o, none⟩ ∧ S b ∧ b < w.heap.size ∧ I64 x.sym.n ∧ I64 x.fr ∧ I64 x.to ∧ x.packs.length ≤ c ∧ c ≤ 9223372036854775807 ∧ Els w S x.packs A' ∧ w.cell? ⟨b, o + k * 5, none⟩ = some (.bool x.sym.term) ∧ w.cell? ⟨b, o + k * 5 + 1, none⟩ = some (.int .i64 x.sym.n) ∧ w.cell? ⟨b, o + k * 5 + 2, none⟩ = some (.int .i64 x.fr) ∧ w.cell? ⟨b, o + k * 5 + 3, none⟩ = some (.int .i64 x.to) ∧ w.cell? ⟨b, o + k * 5 + 4, none⟩ = some (.slice A' x.packs.length c) := by
  obtain ⟨b, o, cs, hA, hS, hb, ⟨v, rfl, h1, h2, h3, hv⟩, hc⟩ := h.at_ hk
  obtain ⟨A', c, rfl, h4, h5, h6⟩ := hv.slice
  exact ⟨b, o, A', c, hA, hS, hb, h1, h2, h3, h4, h5, h6, hc.c0, hc.c1, hc 2 _ rfl, hc 3 _ rfl, hc 4 _ rfl⟩
end
theorem infoNKey : (Tryd.prog.info? 194).map (fun i => (i.zero, i.size, i.bytes)) = some (some (.agg #[.bool false, .int .i64 0, .int .i64 0, .int .i64 0]), 4, 32) := by kernel_rfl
theorem elemNKey : ElemT Tryd.prog NKey 198 194 32 := by obtain ⟨i, h1, h2, h3, h4⟩ := info_parts infoNKey; exact ⟨i, _, Tryd.underlying198, h1, h2, h3, h4, rfl⟩
theorem infoKPack : (Tryd.prog.info? 203).map (fun i => (i.zero, i.size, i.bytes)) = some (some (.agg #[.int .i64 0, .slice none 0 0]), 2, 32) := by kernel_rfl
theorem elemKPack : ElemT Tryd.prog KPack 200 203 32 := by obtain ⟨i, h1, h2, h3, h4⟩ := info_parts infoKPack; exact ⟨i, _, Tryd.underlying200, h1, h2, h3, h4, rfl⟩
theorem infoFPack : (Tryd.prog.info? 155).map (fun i => (i.zero, i.size, i.bytes)) = some (some (.agg #[.int .i64 0, .slice none 0 0]), 2, 32) := by kernel_rfl
theorem elemFPack : ElemT Tryd.prog FPack 151 155 32 := by obtain ⟨i, h1, h2, h3, h4⟩ := info_parts infoFPack; exact ⟨i, _, Tryd.underlying151, h1, h2, h3, h4, rfl⟩
theorem infoFNode : (Tryd.prog.info? 153).map (fun i => (i.zero, i.size, i.bytes)) = some (some (.agg #[.bool false, .int .i64 0, .int .i64 0, .int .i64 0, .slice none 0 0]), 5, 56) := by kernel_rfl
theorem elemFNode : ElemT Tryd.prog FNode 102 153 56 := by obtain ⟨i, h1, h2, h3, h4⟩ := info_parts infoFNode; exact ⟨i, _, Tryd.underlying102, h1, h2, h3, h4, rfl⟩
end Go.Proofs.YtjdojogjogenkaaDoor

/- Maps whose keys are nodes of a forest. -/
namespace Go.Proofs.YtjdojogjogenkaaDoor
open Go.RowKit Go.ChangeMaps Go.MapKept Go.Maps
set_option linter.unusedVariables false

theorem laidOutK : laidOutB Tryd.prog = true := by kernel_rfl
theorem rowKey : (194 : TypeId) < Tryd.prog.types.size := of_decide_eq_true (by kernel_rfl)
theorem wideKey : (match Tryd.prog.underlying 194 with | some (.array _ _) | some (.struct _) => true | _ => false) = true := by kernel_rfl
theorem keyAtKey : Tryd.prog.keyTypeAt 3 194 = true := by kernel_rfl
set_option maxRecDepth 100000 in
theorem keyedKey : Keyed Tryd.prog 194 := Keyed.of_law (deep_law_laid laidOutK (m := 3) (by omega) rowKey keyAtKey wideKey)
def keyV (k : NKey) : Value := .agg #[.bool k.sym.term, .int .i64 k.sym.n, .int .i64 k.fr, .int .i64 k.to]
def keyK (k : NKey) : Lit := .string (keyBytes [.bool k.sym.term, .int .i64 k.sym.n, .int .i64 k.fr, .int .i64 k.to])
theorem key_types : ∃ m, Tryd.prog.types.size = m + 1 + 1 := ⟨Tryd.prog.types.size - 2, by have : 1 < Tryd.prog.types.size := of_decide_eq_true (by kernel_rfl); omega⟩
theorem wf64k {n : Int} (h : I64 n) : (Lit.int .i64 n).wf = true := by
  unfold Lit.wf
  have e1 : IntKind.min .i64 = -9223372036854775808 := by decide
  have e2 : IntKind.max .i64 = 9223372036854775807 := by decide
  simp only [e1, e2, Bool.and_eq_true, decide_eq_true_eq]
  exact ⟨h.1, h.2⟩
theorem keyLitsK_int {m : Nat} {n : Int} (h : I64 n) : Tryd.prog.keyLits (m + 1) 3 [.int .i64 n] = some [.int .i64 n] := by
  unfold Program.keyLits
  rw [Tryd.underlying3]
  simp [wf64k h]
theorem keyLitsK_bool {m : Nat} {b : Bool} : Tryd.prog.keyLits (m + 1) 4 [.bool b] = some [.bool b] := by
  unfold Program.keyLits
  rw [Tryd.underlying4]
theorem cellsK_int : Tryd.prog.cellsOf 3 = 1 := by kernel_rfl
theorem cellsK_bool : Tryd.prog.cellsOf 4 = 1 := by kernel_rfl
theorem cellsK_sym : Tryd.prog.cellsOf 40 = 2 := by kernel_rfl
theorem cellsK_key : Tryd.prog.cellsOf 194 = 4 := by kernel_rfl
theorem keyType_key : Tryd.prog.keyType 194 = true := by kernel_rfl
theorem keyLitsK_sym {m : Nat} {b : Bool} {n : Int} (h : I64 n) : Tryd.prog.keyLits (m + 1 + 1) 40 [.bool b, .int .i64 n] = some [.bool b, .int .i64 n] := by
  unfold Program.keyLits
  rw [Tryd.underlying40]
  simp [cellsK_int, cellsK_bool, cellsK_sym, keyLitsK_int h, keyLitsK_bool]
theorem i64_nat {n : Nat} (h : n ≤ 9223372036854775807) : I64 (n : Int) := ⟨by omega, by omega⟩
theorem key_key {k : NKey} (h : KeyOk k) : keyOf Tryd.prog 194 (keyV k) = some (keyK k) := by
  obtain ⟨m, hm⟩ := key_types
  obtain ⟨h1, h2, h3⟩ := h
  have hf : (keyV k).formed Tryd.prog 194 = true := by simp [keyV, Value.formed, Tryd.underlying194, cellsK_key]
  have hk : Tryd.prog.keyLits (Tryd.prog.types.size + 1) 194 (keyV k).cells.toList = some [.bool k.sym.term, .int .i64 k.sym.n, .int .i64 k.fr, .int .i64 k.to] := by
    rw [hm]
    unfold Program.keyLits
    rw [Tryd.underlying194]
    simp [keyV, Value.cells, cellsK_key, cellsK_int, cellsK_sym, keyLitsK_sym h1, keyLitsK_int (i64_nat h2), keyLitsK_int (i64_nat h3)]
  unfold keyOf
  rw [Tryd.underlying194]
  simp only [keyType_key, hf, hk, Bool.and_self, if_true, Option.map_some]
  rfl
theorem keyK_inj {k k' : NKey} (h1 : KeyOk k) (h2 : KeyOk k') (h : keyK k = keyK k') : k = k' := by
  have e := keyedKey.inj (key_key h1) (by rw [h]; exact key_key h2)
  obtain ⟨⟨t, n⟩, f, o⟩ := k
  obtain ⟨⟨t', n'⟩, f', o'⟩ := k'
  simp [keyV] at e
  obtain ⟨rfl, rfl, h3, h4⟩ := e
  rw [show f = f' by omega, show o = o' by omega]

/-- How an element reads: as itself. -/
def heldE (v : Value) : Option (DataW Value × List MemPlace) := some (.held v, [])
/-- Block MB is a map from nodes to values: X, and z at all others. -/
def KeyM (w : World) (MB n : Nat) (z : Value) (X : NKey → Value) : Prop :=
  ∃ D : DataW Value, w.ownsMap Tryd.prog 194 heldE MB n D ∧ IsMap D ∧ ∀ k : NKey, KeyOk k → D.atKey (keyK k) (.held z) = .held (X k)
section
variable {w w' : World} {MB n : Nat} {z : Value} {X Y : NKey → Value}
theorem KeyM.made (w : World) (z : Value) : KeyM (w.alloc (.map #[] 0)) w.heap.size 0 z (fun _ => z) :=
  ⟨_, World.ownsMap_made _ _ _ _, ⟨_, rfl⟩, fun k _ => rfl⟩
theorem KeyM.lt (h : KeyM w MB n z X) : MB < w.heap.size := by
  obtain ⟨D, h, _⟩ := h
  exact h.lt
theorem KeyM.below (h : KeyM w MB n z X) (hb : Below w.heap.size w w') : KeyM w' MB n z X := by
  obtain ⟨D, h1, h2, h3⟩ := h
  exact ⟨D, h1.kept (row := none) ⟨hb.os, hb.tape, hb.output, hb.size, fun k hk _ => hb.block k hk⟩ (by simp), h2, h3⟩
theorem KeyM.kept {Z : Nat → Prop} (h : KeyM w MB n z X) (k : Kept Z w w') (hz : ¬ Z MB) : KeyM w' MB n z X := by
  obtain ⟨D, h1, h2, h3⟩ := h
  obtain ⟨es, clock, hb, r⟩ := h1
  exact ⟨D, ⟨es, clock, (k.block MB (Array.getElem?_eq_some_iff.1 hb).1 hz).trans hb, r⟩, h2, h3⟩
theorem KeyM.iff (h : KeyM w MB n z X) (hxy : ∀ k, KeyOk k → X k = Y k) : KeyM w MB n z Y := by
  obtain ⟨D, h1, h2, h3⟩ := h
  exact ⟨D, h1, h2, fun k i => by rw [h3 k i, hxy k i]⟩
set_option maxRecDepth 100000 in
theorem KeyM.look {t e : TypeId} (ht : Tryd.prog.underlying t = some (.map 194 e)) (h : KeyM w MB n z X) (hz : (zeroValue e).run Tryd.prog w = .ok z w) {k : NKey} (i : KeyOk k) : (Instr.lookup t (.map (some MB)) (keyV k) false).run Tryd.prog w = .ok (X k) w := by
  obtain ⟨D, h1, h2, h3⟩ := h
  obtain ⟨v, ps, hrun, hv⟩ := h1.lookup keyedKey ht hz (zd := .held z) (zp := []) rfl (key_key i)
  rw [h3 k i] at hv
  unfold heldE at hv
  simp at hv
  rw [hrun, hv.1]
set_option maxRecDepth 100000 in
theorem KeyM.put {t e : TypeId} (ht : Tryd.prog.underlying t = some (.map 194 e)) (h : KeyM w MB n z X) (hn : n < maxLen) {k : NKey} (i : KeyOk k) (v : Value) : ∃ w', (Instr.mapUpdate t (.map (some MB)) (keyV k) v).run Tryd.prog w = .ok () w' ∧ KeyM w' MB (n + 1) z (fun k' => if k' = k then v else X k') ∧ w.grownBy w' (some MB) := by
  obtain ⟨D, h1, h2, h3⟩ := h
  obtain ⟨w', hrun, hown, hg⟩ := h1.update (d := .held v) (ps := []) keyedKey ht hn (key_key i) rfl
  refine ⟨w', hrun, ⟨_, hown, h2.put _ _, fun k' j => ?_⟩, hg⟩
  by_cases e : keyK k' = keyK k
  · have e3 := keyK_inj j i e
    subst e3
    dsimp only
    rw [if_pos rfl]
    exact Maps.atKey_put_same h2 (show WideAt.IsKeyLit (keyK k') from trivial) _ _
  · dsimp only
    rw [Maps.atKey_put_other e, if_neg (fun (e2 : k' = k) => e (by rw [e2]))]
    exact h3 k' j
end
end Go.Proofs.YtjdojogjogenkaaDoor

/- Rows of the call's own whose elements lead to a set of blocks that is given; two such rows side by side. No program is named here. -/
namespace Go.Proofs.YtjdojogjogenkaaDoor
open Go.RowKit
set_option linter.unusedVariables false

/-- v is a row of the call's own; its elements lead to T, which the row's block is not of. -/
def OwnX {α : Type} [Dat α] (w : World) (T : Nat → Prop) (base : Nat) (e : TypeId) (v : Value) (xs : List α) : Prop :=
  ∃ css : List (List Value), w.ownsRow base e (Dat.size α) v xs.length css.flatten ∧ css.length = xs.length ∧
    (∀ (i : Nat) (x : α) (cs : List Value), xs[i]? = some x → css[i]? = some cs → Dat.rd w T x cs) ∧ (∀ k, v.ownBlock = some k → ¬ T k) ∧ (∀ b, T b → b < w.heap.size)

section
variable {w w' : World} {S T T' : Nat → Prop} {base : Nat} {e : TypeId} {v : Value} {α : Type} [Dat α] {xs : List α}
theorem OwnX.nil (w : World) (T : Nat → Prop) (base : Nat) (e : TypeId) (hT : ∀ b, T b → b < w.heap.size) : OwnX w T base e (.slice none 0 0) ([] : List α) :=
  ⟨[], World.ownsRow_nil w base e _, rfl, fun i x cs h => by simp at h, fun k h => by simp [Value.ownBlock] at h, hT⟩
theorem OwnX.block (h : OwnX w T base e v xs) : ∀ k, v.ownBlock = some k → base ≤ k ∧ k < w.heap.size := by
  obtain ⟨css, h1, _⟩ := h
  exact h1.lt
theorem OwnX.mono (h : OwnX w T base e v xs) (hs : ∀ b, T b → T' b) (hv : ∀ k, v.ownBlock = some k → ¬ T' k) (hT : ∀ b, T' b → b < w.heap.size) : OwnX w T' base e v xs := by
  obtain ⟨css, h1, h2, h3, h4, h5⟩ := h
  exact ⟨css, h1, h2, fun i x cs hi hc => Dat.keep (fun _ _ _ => rfl) hs (h3 i x cs hi hc), hv, hT⟩
theorem OwnX.grown {row : Option Nat} (h : OwnX w T base e v xs) (hg : w.grownBy w' row) (hne : ∀ k, row = some k → v.ownBlock ≠ some k ∧ ¬ T k) : OwnX w' T base e v xs := by
  obtain ⟨css, h1, h2, h3, h4, h5⟩ := h
  refine ⟨css, h1.kept hg ?_, h2, fun i x cs hi hc => Dat.keep (fun p hp hlt => ?_) (fun _ hb => hb) (h3 i x cs hi hc), h4, fun b hb => Nat.lt_of_lt_of_le (h5 b hb) hg.size⟩
  · cases hv : v.ownBlock with
    | none => exact .inl rfl
    | some k => exact .inr (fun e => (hne k e.symm).1 hv)
  · exact World.cell?_of_block (hg.block p.block hlt (fun e => (hne _ e.symm).2 hp))
theorem OwnX.below {B : Nat} (h : OwnX w T base e v xs) (hb : Below B w w') (hB : w.heap.size ≤ B) : OwnX w' T base e v xs :=
  h.grown (row := none) ⟨hb.os, hb.tape, hb.output, hb.size, fun k hk _ => hb.block k (by omega)⟩ (fun k h => by cases h)
theorem OwnX.own (h : OwnX w T base e v xs) (hT : ∀ b, T b → S b ∨ base ≤ b) : Own w S base e v xs := by
  obtain ⟨css, h1, h2, h3, h4, h5⟩ := h
  exact ⟨css, h1, h2, fun i x cs hi hc => Dat.keep (fun _ _ _ => rfl) (fun b hb => ⟨hT b hb, fun e => h4 b e hb, h5 b hb⟩) (h3 i x cs hi hc)⟩
theorem OwnX.form (h : OwnX w T base e v xs) : ∃ A c, v = .slice A xs.length c ∧ xs.length ≤ c ∧ c ≤ 9223372036854775807 ∧ (xs = [] ∨ ∃ g, A = some ⟨g, 0, none⟩ ∧ base ≤ g ∧ g < w.heap.size) := by
  obtain ⟨css, h1, h2, _⟩ := h
  rcases h1.2 with ⟨rfl, hn⟩ | ⟨g, cap, cur, rfl, hg, hh, hnc, hcm, _⟩
  · refine ⟨none, 0, by rw [hn], by omega, by omega, .inl (List.eq_nil_of_length_eq_zero hn)⟩
  · exact ⟨_, cap, rfl, hnc, by simpa [maxLen] using hcm, .inr ⟨g, rfl, hg, (Array.getElem?_eq_some_iff.1 hh).1⟩⟩
end

section
variable {P : Program} {w : World} {T : Nat → Prop} {base : Nat} {α : Type} [Dat α]
theorem ownX_many {e : TypeId} {v v' : Value} {w' : World} {xs ys : List α} {css dss : List (List Value)}
    (h2 : css.length = xs.length) (h3 : ∀ (i : Nat) (x : α) (cs : List Value), xs[i]? = some x → css[i]? = some cs → Dat.rd w T x cs) (h4 : ∀ k, v.ownBlock = some k → ¬ T k) (h5 : ∀ b, T b → b < w.heap.size)
    (h2' : dss.length = ys.length) (h3' : ∀ (i : Nat) (x : α) (cs : List Value), ys[i]? = some x → dss[i]? = some cs → Dat.rd w T x cs)
    (hown : w'.ownsRow base e (Dat.size α) v' (xs.length + ys.length) (css.flatten ++ dss.flatten))
    (hg : w.grownBy w' v.ownBlock) (hat : v'.ownBlock = v.ownBlock ∨ v'.ownBlock = some w.heap.size) : OwnX w' T base e v' (xs ++ ys) := by
  have hkeep : ∀ {y : α} {ds : List Value}, Dat.rd w T y ds → Dat.rd w' T y ds := fun hy =>
    Dat.keep (fun p hp hlt => World.cell?_of_block (hg.block p.block hlt (fun e => h4 _ e.symm hp))) (fun b hb => hb) hy
  refine ⟨css ++ dss, by simpa using hown, by simp [h2, h2'], fun i y ds hi hd => ?_, fun k hk hTk => ?_, fun b hb => Nat.lt_of_lt_of_le (h5 b hb) hg.size⟩
  · rcases Nat.lt_or_ge i xs.length with hlt | hge
    · rw [List.getElem?_append_left hlt] at hi
      rw [List.getElem?_append_left (by omega)] at hd
      exact hkeep (h3 i y ds hi hd)
    · rw [List.getElem?_append_right hge] at hi
      rw [List.getElem?_append_right (by omega), h2] at hd
      exact hkeep (h3' _ y ds hi hd)
  · rcases hat with e | e
    · exact h4 k (e ▸ hk) hTk
    · rw [hk] at e; injection e with e; have := h5 k hTk; omega

/-- append of one element that lies at the head of a block of its own. -/
theorem run_ownX1 {t ty e : TypeId} {bytes : Nat} (hT : ElemT P α t e bytes) {v : Value} {xs : List α} {x : α} {cs : List Value} {g c : Nat} (hown : OwnX w T base e v xs)
    (hat : At w g 0 cs) (hrd : Dat.rd w T x cs) (hlen : (xs.length + 1) * bytes ≤ 140737488355328) (hmax : xs.length + 1 ≤ 9223372036854775807) (hbase : base ≤ w.heap.size) :
    ∃ v' w', (Builtin.append_ #[t, t] ty #[v, .slice (some ⟨g, 0, none⟩) 1 c]).run P w = .ok v' w' ∧ OwnX w' T base e v' (xs ++ [x]) ∧ w.grownBy w' v.ownBlock ∧ (v'.ownBlock = v.ownBlock ∨ v'.ownBlock = some w.heap.size) := by
  obtain ⟨i, z, ht, hi, hz, hsize, hby, hzs⟩ := hT
  obtain ⟨css, h1, h2, h3, h4, h5⟩ := hown
  have hcl := Dat.len hrd
  obtain ⟨v', w', hr, ho, hg, _, h6⟩ := run_append_own_at (P := P) w base t ty e i z (Dat.size α) bytes ht hi hz hsize hby hzs Dat.pos v xs.length css.flatten h1 ⟨g, 0, none⟩ 1 c cs (by omega)
    (by intro j u hu; have h := hat j u hu; have hadd : (⟨g, 0, none⟩ : Addr).add j = ⟨g, 0 + j, none⟩ := by unfold Addr.add; split <;> simp_all
        rw [hadd]; exact h) (Dat.one hrd) (by simpa [maxLen] using hmax) hlen hbase
  exact ⟨v', w', hr, ownX_many (ys := [x]) (dss := [cs]) h2 h3 h4 h5 rfl (rd_one hrd) (by simpa using ho) hg h6, hg, h6⟩
end

theorem At.alloc {w : World} {b o : Nat} {cs : List Value} (h : At w b o cs) (hl : 0 < cs.length) (ob : Obj) : At (w.alloc ob) b o cs :=
  h.keep (fun p hp => ((Below.refl w.heap.size w).alloc (Nat.le_refl _) ob).cell (hp ▸ h.lt hl))
theorem At.grown {w w' : World} {b o : Nat} {cs : List Value} {row : Option Nat} (h : At w b o cs) (hl : 0 < cs.length) (hg : w.grownBy w' row) (hne : some b ≠ row) : At w' b o cs :=
  h.keep (fun p hp => World.cell?_of_block (hg.block p.block (hp ▸ h.lt hl) (hp ▸ hne)))
theorem At.drew {w : World} {b o : Nat} {cs : List Value} (h : At w b o cs) : At w.drew b o cs := h
theorem At.new1 (w : World) (cs : List Value) (t : TypeId) (ob : Obj) : At ((w.alloc ob).alloc (.cells cs.toArray t)) (w.heap.size + 1) 0 cs := by
  have h := At.new (w.alloc ob) cs t
  rwa [show (w.alloc ob).heap.size = w.heap.size + 1 from by simp] at h
theorem Els.grown {α : Type} [Dat α] {w w' : World} {S : Nat → Prop} {xs : List α} {A : Option Addr} {row : Option Nat} (h : Els w S xs A) (hg : w.grownBy w' row) (hne : ∀ k, row = some k → ¬ S k) : Els w' S xs A :=
  h.keep (fun p hp hlt => World.cell?_of_block (hg.block p.block hlt (fun e => hne _ e.symm hp))) (fun _ hb => hb)

/-! ### Two rows side by side -/
def T2 (S : Nat → Prop) (B : Nat) (v1 v2 : Value) (w : World) (b : Nat) : Prop := (S b ∨ B ≤ b) ∧ v1.ownBlock ≠ some b ∧ v2.ownBlock ≠ some b ∧ b < w.heap.size
def Two {α β : Type} [Dat α] [Dat β] (w : World) (S : Nat → Prop) (B : Nat) (e1 e2 : TypeId) (v1 v2 : Value) (xs : List α) (ys : List β) : Prop :=
  OwnX w (T2 S B v1 v2 w) B e1 v1 xs ∧ OwnX w (T2 S B v1 v2 w) B e2 v2 ys ∧ ∀ k, v1.ownBlock = some k → v2.ownBlock ≠ some k
section
variable {w w' : World} {S : Nat → Prop} {B : Nat} {e1 e2 : TypeId} {v1 v2 : Value} {α β : Type} [Dat α] [Dat β] {xs : List α} {ys : List β}
theorem T2.swap {b : Nat} (h : T2 S B v1 v2 w b) : T2 S B v2 v1 w b := ⟨h.1, h.2.2.1, h.2.1, h.2.2.2⟩
theorem T2.below {b : Nat} (h : T2 S B v1 v2 w b) (hs : w.heap.size ≤ w'.heap.size) : T2 S B v1 v2 w' b := ⟨h.1, h.2.1, h.2.2.1, Nat.lt_of_lt_of_le h.2.2.2 hs⟩
theorem Two.swap (h : Two w S B e1 e2 v1 v2 xs ys) : Two w S B e2 e1 v2 v1 ys xs :=
  ⟨h.2.1.mono (fun _ => T2.swap) (fun k hk hb => hb.2.1 hk) (fun _ hb => hb.2.2.2), h.1.mono (fun _ => T2.swap) (fun k hk hb => hb.2.2.1 hk) (fun _ hb => hb.2.2.2), fun k h1 h2 => h.2.2 k h2 h1⟩
theorem Two.nil (w : World) (S : Nat → Prop) (B : Nat) (e1 e2 : TypeId) : Two w S B e1 e2 (.slice none 0 0) (.slice none 0 0) ([] : List α) ([] : List β) :=
  ⟨OwnX.nil _ _ _ _ (fun _ hb => hb.2.2.2), OwnX.nil _ _ _ _ (fun _ hb => hb.2.2.2), fun k h => by simp [Value.ownBlock] at h⟩
theorem Two.grown {row : Option Nat} (h : Two w S B e1 e2 v1 v2 xs ys) (hg : w.grownBy w' row) (hne : ∀ k, row = some k → ¬ (S k ∨ B ≤ k)) : Two w' S B e1 e2 v1 v2 xs ys := by
  have hr1 : ∀ k, row = some k → v1.ownBlock ≠ some k := fun k hk e => hne k hk (.inr (h.1.block k e).1)
  have hr2 : ∀ k, row = some k → v2.ownBlock ≠ some k := fun k hk e => hne k hk (.inr (h.2.1.block k e).1)
  exact ⟨(h.1.grown hg fun k hk => ⟨hr1 k hk, fun hb => hne k hk hb.1⟩).mono (fun _ hb => hb.below hg.size) (fun k hk hb => hb.2.1 hk) (fun _ hb => hb.2.2.2),
    (h.2.1.grown hg fun k hk => ⟨hr2 k hk, fun hb => hne k hk hb.1⟩).mono (fun _ hb => hb.below hg.size) (fun k hk hb => hb.2.2.1 hk) (fun _ hb => hb.2.2.2), h.2.2⟩
theorem Two.below {C : Nat} (h : Two w S B e1 e2 v1 v2 xs ys) (hb : Below C w w') (hC : w.heap.size ≤ C) : Two w' S B e1 e2 v1 v2 xs ys :=
  h.grown (row := none) ⟨hb.os, hb.tape, hb.output, hb.size, fun k hk _ => hb.block k (by omega)⟩ (fun k h => by cases h)
theorem Two.alloc (h : Two w S B e1 e2 v1 v2 xs ys) (o : Obj) : Two (w.alloc o) S B e1 e2 v1 v2 xs ys := h.below ((Below.refl w.heap.size w).alloc (Nat.le_refl _) o) (Nat.le_refl _)
theorem Two.drew (h : Two w S B e1 e2 v1 v2 xs ys) : Two w.drew S B e1 e2 v1 v2 xs ys := h.below ((Below.refl w.heap.size w).drew) (Nat.le_refl _)
theorem Two.drewN (h : Two w S B e1 e2 v1 v2 xs ys) (n : Nat) : Two (w.drewN n) S B e1 e2 v1 v2 xs ys := h.below (bdrewN (Below.refl w.heap.size w)) (Nat.le_refl _)
theorem Two.set_ (h : Two w S B e1 e2 v1 v2 xs ys) {p : Addr} (hp : ¬ (S p.block ∨ B ≤ p.block)) (u : Value) : Two (w.setCell p u) S B e1 e2 v1 v2 xs ys :=
  h.grown (row := some p.block) ⟨rfl, rfl, rfl, by simp [World.setCell], fun k _ hk => Below.heap_setCell _ _ _ _ (fun e => hk (by rw [e]))⟩ (fun k hk => by cases hk; exact hp)
/-- What an append to the first row leaves. -/
theorem Two.pushed {v1' : Value} {xs' : List α} (h : Two w S B e1 e2 v1 v2 xs ys) (h1 : OwnX w' (T2 S B v1 v2 w) B e1 v1' xs') (hg : w.grownBy w' v1.ownBlock) (hat : v1'.ownBlock = v1.ownBlock ∨ v1'.ownBlock = some w.heap.size) : Two w' S B e1 e2 v1' v2 xs' ys := by
  have h2 := h.2.1.grown hg fun k hk => ⟨fun e => h.2.2 k hk e, fun hb => hb.2.1 hk⟩
  have hd : ∀ k, v1'.ownBlock = some k → v2.ownBlock ≠ some k := by
    intro k hk e
    rcases hat with e' | e'
    · exact h.2.2 k (e' ▸ hk) e
    · rw [hk] at e'; injection e' with e'; have := (h.2.1.block k e).2; omega
  have hsub : ∀ b, T2 S B v1 v2 w b → T2 S B v1' v2 w' b := fun b hb => ⟨hb.1, (by
    rcases hat with e' | e'
    · rw [e']; exact hb.2.1
    · rw [e']; intro e; injection e with e; have := hb.2.2.2; omega), hb.2.2.1, Nat.lt_of_lt_of_le hb.2.2.2 hg.size⟩
  exact ⟨h1.mono hsub (fun k hk hb => hb.2.1 hk) (fun _ hb => hb.2.2.2), h2.mono hsub (fun k hk hb => hb.2.2.1 hk) (fun _ hb => hb.2.2.2), hd⟩
/-- Both rows, for a reader. -/
theorem Two.vl1 (h : Two w S B e1 e2 v1 v2 xs ys) : Vl w (fun b => (S b ∨ B ≤ b) ∧ b < w.heap.size) xs v1 := (h.1.own (S := S) (fun _ hb => hb.1)).vl
theorem Two.vl2 (h : Two w S B e1 e2 v1 v2 xs ys) : Vl w (fun b => (S b ∨ B ≤ b) ∧ b < w.heap.size) ys v2 := (h.2.1.own (S := S) (fun _ hb => hb.1)).vl
end

section
variable {P : Program} (w : World) {S : Nat → Prop} {B : Nat} {α β : Type} [Dat α] [Dat β]
theorem wp_two1 {o : Oper} {a : Act} {K : Act → World → Prop} {Q : Exit → Act → World → Prop} (s xo : Operand) {t e1 e2 : TypeId} {bytes : Nat} (hT : ElemT P α t e1 bytes)
    (ho : o.op = .call { callee := .builtin .append, args := #[s, xo], argTypes := #[t, t] })
    {v1 v2 : Value} {xs : List α} {ys : List β} (hs : a.eval s = v1) (hown : Two w S B e1 e2 v1 v2 xs ys) (x : α) (cs : List Value) {g c : Nat} (hx : a.eval xo = .slice (some ⟨g, 0, none⟩) 1 c)
    (hat : At w g 0 cs) (hrd : Dat.rd w (T2 S B v1 v2 w) x cs) (hlen : (xs.length + 1) * bytes ≤ 140737488355328) (hmax : xs.length + 1 ≤ 9223372036854775807) (hbase : B ≤ w.heap.size)
    (h : ∀ v' w', Two w' S B e1 e2 v' v2 (xs ++ [x]) ys → w.grownBy w' v1.ownBlock → (v'.ownBlock = v1.ownBlock ∨ v'.ownBlock = some w.heap.size) → K (a.put o.dst v') w') : o.wp P a w K Q := by
  obtain ⟨v', w', hrun, h2, h3, h4⟩ := run_ownX1 (ty := o.type) (c := c) hT hown.1 hat hrd hlen hmax hbase
  unfold Oper.wp execOp
  simp only [ho, resolve, invoke, builtin, Sem.run_bind, Sem.run_pure, Result.andThen_ok, List.map_toArray, List.map_cons, List.map_nil, hs, hx, hrun]
  exact h v' w' (hown.pushed h2 h3 h4) h3 h4
theorem wpList_two1 {ops : Array Oper} {rest : List Oper} {o : Oper} {a : Act} {Q : Exit → Act → World → Prop} (hgd : o.guard = none) (s xo : Operand) {t e1 e2 : TypeId} {bytes : Nat} (hT : ElemT P α t e1 bytes)
    (ho : o.op = .call { callee := .builtin .append, args := #[s, xo], argTypes := #[t, t] })
    {v1 v2 : Value} {xs : List α} {ys : List β} (hs : a.eval s = v1) (hown : Two w S B e1 e2 v1 v2 xs ys) (x : α) (cs : List Value) {g c : Nat} (hx : a.eval xo = .slice (some ⟨g, 0, none⟩) 1 c)
    (hat : At w g 0 cs) (hrd : Dat.rd w (T2 S B v1 v2 w) x cs) (hlen : (xs.length + 1) * bytes ≤ 140737488355328) (hmax : xs.length + 1 ≤ 9223372036854775807) (hbase : B ≤ w.heap.size)
    (h : ∀ v' w', Two w' S B e1 e2 v' v2 (xs ++ [x]) ys → w.grownBy w' v1.ownBlock → (v'.ownBlock = v1.ownBlock ∨ v'.ownBlock = some w.heap.size) → wpList P ops Q rest (a.put o.dst v') w') : wpList P ops Q (o :: rest) a w :=
  wpList_plain hgd fun _ hK => wp_two1 w s xo hT ho hs hown x cs hx hat hrd hlen hmax hbase fun v' w' h2 h3 h4 => hK _ _ (h v' w' h2 h3 h4)
theorem step_two1 {ops : Array Oper} {o : Oper} {a : Act} {K : Act → World → Prop} {Q : Exit → Act → World → Prop} {E : Prop} (hgd : o.guard = none) (s xo : Operand) {t e1 e2 : TypeId} {bytes : Nat} (hT : ElemT P α t e1 bytes)
    (ho : o.op = .call { callee := .builtin .append, args := #[s, xo], argTypes := #[t, t] })
    {v1 v2 : Value} {xs : List α} {ys : List β} (hs : a.eval s = v1) (hown : Two w S B e1 e2 v1 v2 xs ys) (x : α) (cs : List Value) {g c : Nat} (hx : a.eval xo = .slice (some ⟨g, 0, none⟩) 1 c)
    (hat : At w g 0 cs) (hrd : Dat.rd w (T2 S B v1 v2 w) x cs) (hlen : (xs.length + 1) * bytes ≤ 140737488355328) (hmax : xs.length + 1 ≤ 9223372036854775807) (hbase : B ≤ w.heap.size)
    (h : ∀ v' w', Two w' S B e1 e2 v' v2 (xs ++ [x]) ys → w.grownBy w' v1.ownBlock → (v'.ownBlock = v1.ownBlock ∨ v'.ownBlock = some w.heap.size) → K (a.put o.dst v') w') :
    if Region.wanted o (yielded ops a.tmps) = true then Oper.wp P o a w K Q else E := by
  have hw : Region.wanted o (yielded ops a.tmps) = true := by simp [Region.wanted, hgd]
  rw [if_pos hw]
  exact wp_two1 w s xo hT ho hs hown x cs hx hat hrd hlen hmax hbase h
end
end Go.Proofs.YtjdojogjogenkaaDoor

/- Rows whose elements lead to a given set: append of a whole slice; a store elsewhere. -/
namespace Go.Proofs.YtjdojogjogenkaaDoor
open Go.RowKit
set_option linter.unusedVariables false
section
variable {w w' : World} {S T : Nat → Prop} {base : Nat} {e : TypeId} {v : Value} {α : Type} [Dat α] {xs : List α}
theorem Own.toX (h : Own w S base e v xs) : OwnX w (OwnT S base v w) base e v xs := by
  obtain ⟨css, h1, h2, h3⟩ := h
  exact ⟨css, h1, h2, h3, fun k hk hT => hT.2.1 hk, fun b hb => hb.2.2⟩
theorem OwnX.setCell (h : OwnX w T base e v xs) {p : Addr} (hp : v.ownBlock ≠ some p.block) (hT : ¬ T p.block) (u : Value) : OwnX (w.setCell p u) T base e v xs :=
  h.grown (row := some p.block) ⟨rfl, rfl, rfl, by simp [World.setCell], fun k _ hk => Below.heap_setCell _ _ _ _ (fun e => hk (by rw [e]))⟩ (fun k hk => by cases hk; exact ⟨hp, hT⟩)
theorem OwnX.kept {X : Nat → Prop} (h : OwnX w T base e v xs) (k : Kept X w w') (hx : ∀ b, X b → v.ownBlock ≠ some b ∧ ¬ T b) : OwnX w' T base e v xs := by
  obtain ⟨css, h1, h2, h3, h4, h5⟩ := h
  have hg : ∀ g, v.ownBlock = some g → w'.heap[g]? = w.heap[g]? := fun g hg => k.block g (h1.lt g hg).2 (fun hX => (hx g hX).1 hg)
  refine ⟨css, ?_, h2, fun i x cs hi hc => Dat.keep (fun p hp hlt => k.cell hlt (fun hX => (hx _ hX).2 hp)) (fun _ hb => hb) (h3 i x cs hi hc), h4, fun b hb => Nat.lt_of_lt_of_le (h5 b hb) k.size⟩
  refine ⟨h1.1, ?_⟩
  rcases h1.2 with q | ⟨g, cap, cur, q1, q2, q3, q4⟩
  · exact .inl q
  · exact .inr ⟨g, cap, cur, q1, q2, (hg g (by rw [q1]; rfl)).trans q3, q4⟩
end
section
variable {P : Program} {w : World} {T : Nat → Prop} {base : Nat} {α : Type} [Dat α]
theorem run_ownXMany {t ty e : TypeId} {bytes : Nat} (hT : ElemT P α t e bytes) {v : Value} {xs ys : List α} {A : Option Addr} {c : Nat} (hown : OwnX w T base e v xs) (hne : ys ≠ [])
    (hys : Els w T ys A) (hlen : (xs.length + ys.length) * bytes ≤ 140737488355328) (hmax : xs.length + ys.length ≤ 9223372036854775807) (hbase : base ≤ w.heap.size) :
    ∃ v' w', (Builtin.append_ #[t, t] ty #[v, .slice A ys.length c]).run P w = .ok v' w' ∧ OwnX w' T base e v' (xs ++ ys) ∧ w.grownBy w' v.ownBlock ∧ (v'.ownBlock = v.ownBlock ∨ v'.ownBlock = some w.heap.size) := by
  obtain ⟨i, z, ht, hi, hz, hsize, hby, hzs⟩ := hT
  obtain ⟨b, o, rfl, hb, hx⟩ := hys hne
  obtain ⟨dss, h2', h3', h4'⟩ := Els.lists (o := o) ys 0 (fun i x hi => by simpa using hx i x hi)
  simp only [Nat.zero_mul, Nat.add_zero] at h4'
  obtain ⟨css, h1, h2, h3, h4, h5⟩ := hown
  have hdl : ∀ ds ∈ dss, ds.length = Dat.size α := by
    intro ds hds
    obtain ⟨i, hi, rfl⟩ := List.getElem_of_mem hds
    exact Dat.len (h3' i _ _ (List.getElem?_eq_getElem (by omega : i < ys.length)) (List.getElem?_eq_getElem hi))
  have hfl := flat_len dss hdl
  have hone : ∀ u ∈ dss.flatten, u.oneCell' = true := by
    intro u hu
    obtain ⟨ds, hds, hu⟩ := List.mem_flatten.1 hu
    obtain ⟨i, hi, rfl⟩ := List.getElem_of_mem hds
    exact Dat.one (h3' i _ _ (List.getElem?_eq_getElem (by omega : i < ys.length)) (List.getElem?_eq_getElem hi)) u hu
  obtain ⟨v', w', hr, ho, hg, _, h6⟩ := run_append_own_at (P := P) w base t ty e i z (Dat.size α) bytes ht hi hz hsize hby hzs Dat.pos v xs.length css.flatten h1 ⟨b, o, none⟩ ys.length c dss.flatten (by rw [hfl, h2'])
    (by
      intro j u hu
      have h := h4' j u hu
      have hadd : (⟨b, o, none⟩ : Addr).add j = ⟨b, o + j, none⟩ := by unfold Addr.add; split <;> simp_all
      rw [hadd]; exact h) hone (by simpa [maxLen] using hmax) hlen hbase
  exact ⟨v', w', hr, ownX_many h2 h3 h4 h5 h2' h3' ho hg h6, hg, h6⟩
theorem wp_ownXMany {o : Oper} {a : Act} {K : Act → World → Prop} {Q : Exit → Act → World → Prop} (s xo : Operand) {t e : TypeId} {bytes : Nat} (hT : ElemT P α t e bytes)
    (ho : o.op = .call { callee := .builtin .append, args := #[s, xo], argTypes := #[t, t] })
    {v : Value} {xs : List α} (hs : a.eval s = v) (hown : OwnX w T base e v xs) (ys : List α) {A : Option Addr} {n c : Nat} (hx : a.eval xo = .slice A n c) (hn : n = ys.length) (hne : ys ≠ [])
    (hys : Els w T ys A) (hlen : (xs.length + ys.length) * bytes ≤ 140737488355328) (hmax : xs.length + ys.length ≤ 9223372036854775807) (hbase : base ≤ w.heap.size)
    (h : ∀ v' w', OwnX w' T base e v' (xs ++ ys) → w.grownBy w' v.ownBlock → (v'.ownBlock = v.ownBlock ∨ v'.ownBlock = some w.heap.size) → K (a.put o.dst v') w') : o.wp P a w K Q := by
  subst hn
  obtain ⟨v', w', hrun, h2, h3, h4⟩ := run_ownXMany (ty := o.type) (c := c) hT hown hne hys hlen hmax hbase
  unfold Oper.wp execOp
  simp only [ho, resolve, invoke, builtin, Sem.run_bind, Sem.run_pure, Result.andThen_ok, List.map_toArray, List.map_cons, List.map_nil, hs, hx, hrun]
  exact h v' w' h2 h3 h4
end
end Go.Proofs.YtjdojogjogenkaaDoor

/- Plain: how many ways, packs and nodes there are. No program is named here. -/
namespace Go.Proofs.YtjdojogjogenkaaDoor
set_option linter.unusedVariables false

theorem sum_le_mul {α : Type} (f : α → Nat) (B : Nat) : ∀ (l : List α), (∀ x ∈ l, f x ≤ B) → (l.map f).sum ≤ l.length * B
  | [], _ => by simp
  | x :: l, h => by
    have h1 := h x (by simp)
    have h2 := sum_le_mul f B l (fun y hy => h y (by simp [hy]))
    rw [List.map_cons, List.sum_cons, List.length_cons, Nat.add_mul]
    omega
theorem flatB_len {α β : Type} (f : α → List β) (B : Nat) (l : List α) (h : ∀ x ∈ l, (f x).length ≤ B) : (l.flatMap f).length ≤ l.length * B := by
  rw [List.length_flatMap]
  exact sum_le_mul (fun x => (f x).length) B l h
theorem ways_len (w : List Int) (T : List (List Nat)) : ∀ (ss : List Sym) (f t : Nat), t ≤ 12 → (waysL w T ss f t).length ≤ 13 ^ ss.length
  | [], f, t, _ => by unfold waysL; split <;> simp
  | s :: ss, f, t, ht => by
    unfold waysL
    refine Nat.le_trans (flatB_len _ (13 ^ ss.length) _ (fun m _ => ?_)) ?_
    · split
      · rw [List.length_map]; exact ways_len w T ss m t ht
      · exact Nat.zero_le _
    · rw [List.length_range, List.length_cons, Nat.pow_succ, Nat.mul_comm (13 ^ ss.length)]
      exact Nat.mul_le_mul_right _ (by omega)
theorem packs_len (g : Gram) (w : List Int) (T : List (List Nat)) (k : NKey) (h1 : g.rules.length ≤ 32) (h2 : ∀ q ∈ g.rules, q.right.length ≤ 4) (h3 : k.to ≤ 12) : (packsL g w T k).length ≤ 913952 := by
  unfold packsL
  split
  · simp
  · refine Nat.le_trans (flatB_len _ 28561 _ (fun x hx => ?_)) ?_
    · split
      · rw [List.length_map]
        refine Nat.le_trans (ways_len w T _ _ _ h3) ?_
        obtain ⟨q, i⟩ := x
        have hq := List.mem_of_getElem? (List.mem_zipIdx_iff_getElem?.1 hx)
        exact Nat.le_trans (Nat.pow_le_pow_right (by omega) (h2 q hq)) (by decide)
      · simp
    · rw [List.length_zipIdx]
      omega
theorem way_syms {w : List Int} {T : List (List Nat)} : ∀ (ss : List Sym) (f t : Nat) (l : List NKey), IsWay w T ss f t l → ∀ k ∈ l, k.sym ∈ ss
  | [], f, t, l, h, k, hk => by rw [h.2] at hk; simp at hk
  | s :: ss, f, t, l, ⟨m, l', _, _, e, h2⟩, k, hk => by
    subst e
    rcases List.mem_cons.1 hk with rfl | hk
    · simp
    · exact List.mem_cons_of_mem _ (way_syms ss m t l' h2 k hk)
theorem way_len {w : List Int} {T : List (List Nat)} : ∀ (ss : List Sym) (f t : Nat) (l : List NKey), IsWay w T ss f t l → l.length = ss.length
  | [], f, t, l, h => by rw [h.2]; rfl
  | s :: ss, f, t, l, ⟨m, l', _, _, e, h2⟩ => by
    subst e
    rw [List.length_cons, List.length_cons, way_len ss m t l' h2]
/-- A symbol of a grammar with m terminals and n nonterminals. -/
def SymMN (m n : Nat) (s : Sym) : Prop := 0 ≤ s.n ∧ if s.term then s.n < (m : Int) else s.n < (n : Int)
def symsMN (m n : Nat) : List Sym := (List.range m).map (fun i => ⟨true, (i : Int)⟩) ++ (List.range n).map (fun i => ⟨false, (i : Int)⟩)
def keysMN (m n : Nat) : List NKey := (symsMN m n).flatMap fun s => (List.range 13).flatMap fun f => (List.range 13).map fun t => ⟨s, f, t⟩
theorem mem_keysMN {m n : Nat} {k : NKey} (hs : SymMN m n k.sym) (h1 : k.fr ≤ k.to) (h2 : k.to ≤ 12) : k ∈ keysMN m n := by
  obtain ⟨⟨st, sn⟩, f, t⟩ := k
  dsimp only at *
  unfold keysMN
  rw [List.mem_flatMap]
  refine ⟨⟨st, sn⟩, ?_, ?_⟩
  · unfold symsMN
    rw [List.mem_append]
    obtain ⟨h3, h4⟩ := hs
    dsimp only at h3 h4
    cases st
    · rw [if_neg (by simp)] at h4
      exact .inr (List.mem_map.2 ⟨sn.toNat, List.mem_range.2 (by omega), by rw [Int.toNat_of_nonneg h3]⟩)
    · rw [if_pos rfl] at h4
      exact .inl (List.mem_map.2 ⟨sn.toNat, List.mem_range.2 (by omega), by rw [Int.toNat_of_nonneg h3]⟩)
  · rw [List.mem_flatMap]
    exact ⟨f, List.mem_range.2 (by omega), List.mem_map.2 ⟨t, List.mem_range.2 (by omega), rfl⟩⟩
theorem keysMN_len {m n : Nat} (hm : m ≤ 8) (hn : n ≤ 10) : (keysMN m n).length ≤ 3042 := by
  unfold keysMN
  refine Nat.le_trans (flatB_len _ 169 _ (fun s _ => Nat.le_trans (flatB_len _ 13 _ (fun f _ => by simp)) (by simp))) ?_
  unfold symsMN
  simp only [List.length_append, List.length_map, List.length_range]
  omega
/-- Nodes that are met: sound ones, over symbols of the grammar. -/
def KeyIn (m n : Nat) (w : List Int) (T : List (List Nat)) (k : NKey) : Prop := SymMN m n k.sym ∧ GoodK w T k
theorem keyIn_kid {m n : Nat} {g : Gram} {w : List Int} {T : List (List Nat)} (hS : SndM g w T) (hs : ∀ q ∈ g.rules, ∀ s ∈ q.right, SymMN m n s) {k : NKey} (hk : KeyIn m n w T k) {p : Nat × List NKey} (hp : p ∈ packsL g w T k) : ∀ x ∈ p.2, KeyIn m n w T x := by
  obtain ⟨_, q, hq, _, hw⟩ := mem_packs.1 hp
  have hqm := List.mem_of_getElem? hq
  exact fun x hx => ⟨hs q hqm _ (way_syms _ _ _ _ hw x hx), way_good hS q.right k.fr k.to p.2 (fun s hsm => (hs q hqm s hsm).1) (Nat.le_trans hk.2.le hk.2.len) hw x hx⟩
theorem keys_bound {m n : Nat} {w : List Int} {T : List (List Nat)} (hm : m ≤ 8) (hn : n ≤ 10) (hw : w.length ≤ 12) {L : List NKey} (hL : L.Nodup) (h : ∀ k ∈ L, KeyIn m n w T k) : L.length ≤ 3042 :=
  Nat.le_trans (nodup_leC L (keysMN m n) hL (fun k hk => mem_keysMN (h k hk).1 (h k hk).2.le (Nat.le_trans (h k hk).2.len hw))) (keysMN_len hm hn)
end Go.Proofs.YtjdojogjogenkaaDoor

/- Steps of a region that draws its order, by hand: the operation is read off the written-out list. No program is named here. -/
namespace Go.Proofs.YtjdojogjogenkaaDoor
open Go.RowKit
set_option linter.unusedVariables false

theorem drop_get {l : List Oper} {i : Nat} {o : Oper} {rest : List Oper} (h : l.drop i = o :: rest) : l.toArray[i]? = some o := by
  have h1 : (l.drop i)[0]? = some o := by rw [h]; rfl
  simpa using h1
section
variable {P : Program} {l : List Oper} {Q : Exit → Act → World → Prop} {md : Region.Mode} {S : World → Prop}
/-- An operation that runs, and only reads. -/
theorem take_run {i : Nat} {oi : Oper} {rest : List Oper} {v : Value} {fuel : Nat} {listed : Array Bool} {a : Act} {w : World} (hi : l.drop i = oi :: rest)
    (hs : Region.noSelect l.toArray = true) (hf : Region.free md l.toArray listed i = true) (hr : (Region.ready md l.toArray listed).contains i = true)
    (hQ : ∀ c a w, Q (.panic c) (a.put oi.dst v) w → Q (.panic c) a w) (hw : Region.wanted oi (yielded l.toArray a.tmps) = true) (hy : ∀ w, S w → (execOp a.eval oi).run P w = .ok (.value v) w) (hS : S w)
    (h : wpAnyH P md l.toArray Q S fuel (listed.setIfInBounds i true) (a.put oi.dst v) w) : wpAnyH P md l.toArray Q S (fuel + 1) listed a w :=
  wpAnyH_take (drop_get hi) hs hf hr hQ (.inl ⟨hw, hy⟩) hS h
/-- An operation whose guard bars it. -/
theorem take_bar {i : Nat} {oi : Oper} {rest : List Oper} {fuel : Nat} {listed : Array Bool} {a : Act} {w : World} (hi : l.drop i = oi :: rest)
    (hs : Region.noSelect l.toArray = true) (hf : Region.free md l.toArray listed i = true) (hr : (Region.ready md l.toArray listed).contains i = true)
    (hQ : ∀ c a w, Q (.panic c) (a.put oi.dst undef) w → Q (.panic c) a w) (hw : Region.wanted oi (yielded l.toArray a.tmps) = false) (hS : S w)
    (h : wpAnyH P md l.toArray Q S fuel (listed.setIfInBounds i true) (a.put oi.dst undef) w) : wpAnyH P md l.toArray Q S (fuel + 1) listed a w :=
  wpAnyH_take (drop_get hi) hs hf hr hQ (.inr ⟨hw, rfl⟩) hS h
/-- A call that alone may come up. -/
theorem take_call {i : Nat} {o : Oper} {rest : List Oper} {fuel : Nat} {listed : Array Bool} {a : Act} {w : World} (hi : l.drop i = o :: rest) (hr : Region.ready md l.toArray listed = [i]) (hw : Region.wanted o (yielded l.toArray a.tmps) = true)
    (h : ∀ K' : Act → World → Prop, Shut (∀ a w, S w → (S w → wpAnyH P md l.toArray Q S fuel (listed.setIfInBounds i true) a w) → K' a w) → Oper.wp P o a w K' Q) : wpAnyH P md l.toArray Q S (fuel + 1) listed a w :=
  wpAnyH_ready hr (by simp) (AllReadyH.cons (drop_get hi) (fun K hK => by rw [if_pos hw]; exact h K hK) AllReadyH.nil)
/-- Two operations that may come up. -/
theorem take_two {i j : Nat} {o o' : Oper} {rest rest' : List Oper} {fuel : Nat} {listed : Array Bool} {a : Act} {w : World} (hi : l.drop i = o :: rest) (hj : l.drop j = o' :: rest') (hr : Region.ready md l.toArray listed = [i, j]) (hwi : Region.wanted o (yielded l.toArray a.tmps) = true) (hwj : Region.wanted o' (yielded l.toArray a.tmps) = true)
    (h1 : ∀ K' : Act → World → Prop, Shut (∀ a w, S w → (S w → wpAnyH P md l.toArray Q S fuel (listed.setIfInBounds i true) a w) → K' a w) → Oper.wp P o a w K' Q)
    (h2 : ∀ K' : Act → World → Prop, Shut (∀ a w, S w → (S w → wpAnyH P md l.toArray Q S fuel (listed.setIfInBounds j true) a w) → K' a w) → Oper.wp P o' a w K' Q) : wpAnyH P md l.toArray Q S (fuel + 1) listed a w :=
  wpAnyH_ready hr (by simp) (AllReadyH.cons (drop_get hi) (fun K hK => by rw [if_pos hwi]; exact h1 K hK) (AllReadyH.cons (drop_get hj) (fun K hK => by rw [if_pos hwj]; exact h2 K hK) AllReadyH.nil))
end
end Go.Proofs.YtjdojogjogenkaaDoor

/- Rows of uint32 made one by one into a slice that was made whole: their memory. Written by genrowu.py. -/
namespace Go.Proofs.YtjdojogjogenkaaDoor
open Go.RowKit
set_option linter.unusedVariables false

def uSl (b m : Nat) : Value := .slice (some ⟨b, 0, none⟩) m m
def ucells (l : List Nat) : Array Value := (l.map fun x : Nat => Value.int .u32 (x : Int)).toArray
theorem ucells_get {l : List Nat} {i : Nat} {x : Nat} (h : l[i]? = some x) : (ucells l)[i]? = some (.int .u32 (x : Int)) := by simp [ucells, h]
theorem ucells_set (l : List Nat) (i : Nat) (x : Nat) : (ucells l).setIfInBounds i (.int .u32 (x : Int)) = ucells (l.set i x) := by
  apply Array.ext'
  simp [ucells, List.map_set]
theorem infoU32 : (Tryd.prog.info? 195).map (fun i => (i.zero, i.size, i.bytes)) = some (some (.int .u32 0), 1, 4) := by kernel_rfl
theorem infoU32s : (Tryd.prog.info? 196).map (fun i => (i.zero, i.size, i.bytes)) = some (some (.slice none 0 0), 1, 24) := by kernel_rfl
theorem mkU32 (n : Nat) (hn : n ≤ 1000000) (W : World) : (Instr.makeSlice 196 (.int .i64 (n : Int)) (.int .i64 (n : Int))).run Tryd.prog W = .ok (.slice (some ⟨W.heap.size, 0, none⟩) n n) (W.alloc (.cells (ucells (List.replicate n 0)) 195)) := by
  obtain ⟨i0, hi, hz0, hz1, hz2⟩ := info_parts infoU32
  have h := run_makeSlice (P := Tryd.prog) W 196 195 i0 (.int .u32 0) Tryd.underlying196 hi hz0 .i64 .i64 (n : Int) (n : Int) (by omega) (Int.le_refl _) (by rw [hz1]; simp; omega) (by rw [hz2]; omega) (by omega)
  rw [h, hz1]
  simp only [Int.toNat_natCast]
  have e : madeCells (Value.int .u32 0).cells (n * 1) = ucells (List.replicate n 0) := by
    apply Array.ext'
    show (madeCells #[Value.int .u32 0] (n * 1)).toList = _
    rw [toList_madeCells_one]
    simp [ucells]
  rw [e]

structure RowsU (w : World) (bf : Nat) (bs : List Nat) (m n cf : Nat) (f : List (List Nat)) : Prop where
  flen : f.length = n
  blen : bs.length = n
  outer : ∀ (i b : Nat), bs[i]? = some b → w.cell? ⟨bf, i, none⟩ = some (uSl b m)
  rows : ∀ (i b : Nat) (row : List Nat), bs[i]? = some b → f[i]? = some row → Blk' w b 195 (ucells row) ∧ row.length = m
  nodup : (bf :: bs).Nodup
  bflt : bf < w.heap.size
  cap : n ≤ cf ∧ cf ≤ 9223372036854775807
section
variable {w w' : World} {bf m n cf : Nat} {bs : List Nat} {f : List (List Nat)}
theorem RowsU.kept {X : Nat → Prop} (h : RowsU w bf bs m n cf f) (k : Kept X w w') (hx : ∀ b ∈ bf :: bs, ¬ X b) : RowsU w' bf bs m n cf f :=
  ⟨h.flen, h.blen, fun i b hb => (k.cell (p := ⟨bf, i, none⟩) h.bflt (hx _ (by simp))).trans (h.outer i b hb),
    fun i b row hb hr => ⟨(h.rows i b row hb hr).1.kept k (hx _ (by simp [List.mem_of_getElem? hb])), (h.rows i b row hb hr).2⟩, h.nodup, Nat.lt_of_lt_of_le h.bflt k.size, h.cap⟩
theorem RowsU.below (h : RowsU w bf bs m n cf f) (k : Below w.heap.size w w') : RowsU w' bf bs m n cf f :=
  h.kept (Kept.of_below (fun _ => False) k) (fun _ _ h => h)
theorem RowsU.lt (h : RowsU w bf bs m n cf f) : ∀ b ∈ bf :: bs, b < w.heap.size := by
  intro b hb
  rcases List.mem_cons.1 hb with rfl | hb
  · exact h.bflt
  obtain ⟨i, hi, rfl⟩ := List.getElem_of_mem hb
  have h1 : i < f.length := by have := h.blen; have := h.flen; omega
  exact (h.rows i _ _ (List.getElem?_eq_getElem hi) (List.getElem?_eq_getElem h1)).1.lt
theorem RowsU.setRow (h : RowsU w bf bs m n cf f) {i bi : Nat} {row' : List Nat} (hi : bs[i]? = some bi) (k : Kept (fun b => b = bi) w w') (hb : Blk' w' bi 195 (ucells row')) (hl : row'.length = m) : RowsU w' bf bs m n cf (f.set i row') := by
  have hm := List.mem_of_getElem? hi
  have hnd := h.nodup
  simp only [List.nodup_cons] at hnd
  obtain ⟨n6, n7⟩ := hnd
  refine ⟨by simp [h.flen], h.blen, fun j b hb' => (k.cell (p := ⟨bf, j, none⟩) h.bflt (fun e => n6 (by have e' : bf = bi := e; exact e' ▸ hm))).trans (h.outer j b hb'), fun j b row hjb hjr => ?_, h.nodup, Nat.lt_of_lt_of_le h.bflt k.size, h.cap⟩
  rw [List.getElem?_set] at hjr
  split at hjr
  · rename_i e
    subst e
    split at hjr
    · injection hjr with hjr
      subst hjr
      rw [hi] at hjb
      injection hjb with hjb
      subst hjb
      exact ⟨hb, hl⟩
    · cases hjr
  · rename_i e
    have hr := h.rows j b row hjb hjr
    refine ⟨hr.1.kept k (fun e' => ?_), hr.2⟩
    subst e'
    obtain ⟨q1, q2⟩ := List.getElem?_eq_some_iff.1 hi
    obtain ⟨q3, q4⟩ := List.getElem?_eq_some_iff.1 hjb
    exact e ((List.getElem_inj n7).1 (q2.trans q4.symm))
end


/-- Slices of rows: the first ones made, the others nil. -/
def sucells (bs : List Nat) (m n : Nat) : Array Value := ((bs.map fun b => uSl b m) ++ List.replicate (n - bs.length) (Value.slice none 0 0)).toArray
theorem sucells_get {bs : List Nat} {m n i b : Nat} (h : bs[i]? = some b) : (sucells bs m n)[i]? = some (uSl b m) := by
  have hi := (List.getElem?_eq_some_iff.1 h).1
  unfold sucells
  rw [List.getElem?_toArray, List.getElem?_append_left (by simpa using hi)]
  simp [h]
theorem sucells_set {bs : List Nat} {m n b : Nat} (h : bs.length < n) : (sucells bs m n).setIfInBounds bs.length (uSl b m) = sucells (bs ++ [b]) m n := by
  apply Array.ext'
  unfold sucells
  simp only [Array.toList_setIfInBounds]
  apply List.ext_getElem?
  intro j
  rw [List.getElem?_set]
  by_cases e : bs.length = j
  · subst e
    rw [if_pos rfl, if_pos (by simp; omega), List.getElem?_append_left (by simp)]
    simp
  · rw [if_neg e]
    rcases Nat.lt_or_ge j bs.length with hj | hj
    · rw [List.getElem?_append_left (by simpa using hj), List.getElem?_append_left (by simp; omega)]
      rw [List.map_append, List.getElem?_append_left (by simpa using hj)]
    · rw [List.getElem?_append_right (by simpa using hj), List.getElem?_append_right (by simp; omega), List.getElem?_replicate, List.getElem?_replicate]
      simp only [List.length_map, List.length_append, List.length_cons, List.length_nil]
      by_cases hn : j < n
      · rw [if_pos (by omega), if_pos (by omega)]
      · rw [if_neg (by omega), if_neg (by omega)]
theorem sucells_nil {bs : List Nat} {m n i : Nat} (h : bs.length ≤ i) (hi : i < n) : (sucells bs m n)[i]? = some (.slice none 0 0) := by
  unfold sucells
  rw [List.getElem?_toArray, List.getElem?_append_right (by simpa using h), List.getElem?_replicate, if_pos (by simp; omega)]
theorem mkRowsU (n : Nat) (hn : n ≤ 1000000) (W : World) : (Instr.makeSlice 158 (.int .i64 (n : Int)) (.int .i64 (n : Int))).run Tryd.prog W = .ok (.slice (some ⟨W.heap.size, 0, none⟩) n n) (W.alloc (.cells (sucells [] 0 n) 196)) := by
  obtain ⟨i0, hi, hz0, hz1, hz2⟩ := info_parts infoU32s
  have h := run_makeSlice (P := Tryd.prog) W 158 196 i0 (.slice none 0 0) Tryd.underlying158 hi hz0 .i64 .i64 (n : Int) (n : Int) (by omega) (Int.le_refl _) (by rw [hz1]; simp; omega) (by rw [hz2]; omega) (by omega)
  rw [h, hz1]
  simp only [Int.toNat_natCast]
  have e : madeCells (Value.slice none 0 0).cells (n * 1) = sucells [] 0 n := by
    apply Array.ext'
    show (madeCells #[Value.slice none 0 0] (n * 1)).toList = _
    rw [toList_madeCells_one]
    simp [sucells]
  rw [e]
theorem sucells_any (m m' n : Nat) : sucells [] m n = sucells [] m' n := rfl

/-- The first rows are made. -/
structure RowPU (w : World) (bf n m : Nat) (bs : List Nat) (f : List (List Nat)) : Prop where
  flen : f.length = bs.length
  le : bs.length ≤ n
  outer : Blk' w bf 196 (sucells bs m n)
  rows : ∀ (i b : Nat) (row : List Nat), bs[i]? = some b → f[i]? = some row → Blk' w b 195 (ucells row) ∧ row.length = m
  lt : ∀ b ∈ bs, bf < b ∧ b < w.heap.size
  nodup : bs.Nodup
theorem RowPU.start {w : World} {bf n : Nat} (m : Nat) (h : Blk' w bf 196 (sucells [] 0 n)) : RowPU w bf n m [] [] :=
  ⟨rfl, Nat.zero_le _, h, by simp, by simp, List.nodup_nil⟩
theorem RowPU.next {w w' : World} {bf n m R : Nat} {bs : List Nat} {f : List (List Nat)} {row : List Nat} (h : RowPU w bf n m bs f) (hlt : bs.length < n) (k : Kept (fun b => b = bf) w w') (hO : Blk' w' bf 196 (sucells (bs ++ [R]) m n)) (hR : Blk' w' R 195 (ucells row)) (hl : row.length = m) (hR0 : w.heap.size ≤ R) :
    RowPU w' bf n m (bs ++ [R]) (f ++ [row]) := by
  have hbf := h.outer.lt
  refine ⟨by simp [h.flen], by simp; omega, hO, fun i b row' hi hr => ?_, fun b hbm => ?_, ?_⟩
  · rcases Nat.lt_or_ge i bs.length with hlt2 | hge
    · rw [List.getElem?_append_left hlt2] at hi
      rw [List.getElem?_append_left (by rw [h.flen]; exact hlt2)] at hr
      obtain ⟨h1, h2⟩ := h.rows i b row' hi hr
      have hm := h.lt b (List.mem_of_getElem? hi)
      exact ⟨h1.kept k (by omega), h2⟩
    · have e1 : i = bs.length := by have := (List.getElem?_eq_some_iff.1 hi).1; simp at this; omega
      subst e1
      rw [List.getElem?_append_right (Nat.le_refl _)] at hi
      rw [List.getElem?_append_right (by rw [h.flen]; exact Nat.le_refl _), h.flen] at hr
      simp at hi hr
      subst hi; subst hr
      exact ⟨hR, hl⟩
  · have hs := k.size
    rcases List.mem_append.1 hbm with hbm | hbm
    · have := h.lt b hbm
      exact ⟨this.1, by omega⟩
    · simp at hbm
      subst hbm
      exact ⟨by omega, hR.lt⟩
  · rw [List.nodup_append]
    exact ⟨h.nodup, by simp, fun a ha b hb' e => by simp at hb'; subst hb'; have := h.lt a ha; omega⟩
theorem RowPU.done {w : World} {bf n m : Nat} {bs : List Nat} {f : List (List Nat)} (h : RowPU w bf n m bs f) (hn : bs.length = n) (hm : n ≤ 9223372036854775807) : RowsU w bf bs m n n f :=
  ⟨by rw [h.flen, hn], hn, fun i b hib => (h.outer.cell i).trans (sucells_get hib), h.rows, by
    simp only [List.nodup_cons]
    exact ⟨fun hm => by have := h.lt bf hm; omega, h.nodup⟩, h.outer.lt, Nat.le_refl _, hm⟩
end Go.Proofs.YtjdojogjogenkaaDoor

/- Parts of slices, and slices of two slices, read. -/
namespace Go.Proofs.YtjdojogjogenkaaDoor
open Go.RowKit
set_option linter.unusedVariables false
section
variable {w : World} {S : Nat → Prop} {α : Type} [Dat α]
theorem Els.takeS {xs : List α} {A : Option Addr} (h : Els w S xs A) (n : Nat) : Els w S (xs.take n) A := by
  intro hne
  obtain ⟨b', o', e, hS, hx⟩ := h (by rintro rfl; simp at hne)
  refine ⟨b', o', e, hS, fun i y hi => hx i y ?_⟩
  rw [List.getElem?_take] at hi
  split at hi
  · exact hi
  · cases hi
theorem Els.dropS {xs : List α} {b o : Nat} (h : Els w S xs (some ⟨b, o, none⟩)) (n : Nat) : Els w S (xs.drop n) (some ⟨b, o + n * Dat.size α, none⟩) := by
  intro hne
  obtain ⟨b', o', e, hS, hx⟩ := h (by rintro rfl; simp at hne)
  injection e with e
  injection e with e1 e2 _
  subst e1; subst e2
  refine ⟨b, o + n * Dat.size α, rfl, hS, fun i y hi => ?_⟩
  rw [List.getElem?_drop] at hi
  obtain ⟨cs, h1, h2⟩ := hx _ y hi
  refine ⟨cs, h1, ?_⟩
  rw [show o + n * Dat.size α + i * Dat.size α = o + (n + i) * Dat.size α from by rw [Nat.add_mul]; omega]
  exact h2
theorem Els.nilS {A : Option Addr} : Els w S ([] : List α) A := fun h => absurd rfl h
/-- A row of a slice of slices. -/
theorem Els.rowS {xs : List (List α)} {A : Option Addr} (h : Els w S xs A) {k : Nat} {x : List α} (hk : xs[k]? = some x) :
    ∃ b o A' c, A = some ⟨b, o, none⟩ ∧ S b ∧ b < w.heap.size ∧ w.cell? ⟨b, o + k, none⟩ = some (.slice A' x.length c) ∧ x.length ≤ c ∧ c ≤ 9223372036854775807 ∧ Els w S x A' := by
  obtain ⟨b, o, cs, hA, hS, hb, ⟨A', c, rfl, h1, h2, h3⟩, hc⟩ := h.at_ hk
  refine ⟨b, o, A', c, hA, hS, hb, ?_, h1, by simpa [maxLen] using h2, h3⟩
  have := hc.c0
  rwa [show o + k * Dat.size (List α) = o + k from by show o + k * 1 = o + k; omega] at this
/-- A literal of two slices. -/
theorem els_pairS {x y : List α} {A B : Option Addr} {c d : Nat} (t : TypeId) (hx : Els w S x A) (hy : Els w S y B) (hc : x.length ≤ c) (hc2 : c ≤ 9223372036854775807) (hd : y.length ≤ d) (hd2 : d ≤ 9223372036854775807) :
    Els (w.alloc (.cells #[.slice A x.length c, .slice B y.length d] t)) (fun b => S b ∨ b = w.heap.size) [x, y] (some ⟨w.heap.size, 0, none⟩) := fun _ => by
  have hb : Below w.heap.size w (w.alloc (.cells #[.slice A x.length c, .slice B y.length d] t)) := (Below.refl _ _).alloc (Nat.le_refl _) _
  refine ⟨w.heap.size, 0, rfl, .inr rfl, fun i z hi => ?_⟩
  match i, hi with
  | 0, hi =>
    simp at hi; subst hi
    refine ⟨[.slice A x.length c], ⟨A, c, rfl, hc, by simpa [maxLen] using hc2, (hx.below hb).keep (fun _ _ _ => rfl) (fun b h => .inl h)⟩, fun j u hu => ?_⟩
    match j, hu with
    | 0, hu => simp at hu; subst hu; rw [show 0 + 0 * Dat.size (List α) + 0 = 0 by omega]; exact (Blk'.new w t _).cell 0
  | 1, hi =>
    simp at hi; subst hi
    refine ⟨[.slice B y.length d], ⟨B, d, rfl, hd, by simpa [maxLen] using hd2, (hy.below hb).keep (fun _ _ _ => rfl) (fun b h => .inl h)⟩, fun j u hu => ?_⟩
    match j, hu with
    | 0, hu => simp at hu; subst hu; rw [show 0 + 1 * Dat.size (List α) + 0 = 1 from rfl]; exact (Blk'.new w t _).cell 1
end
end Go.Proofs.YtjdojogjogenkaaDoor

/- A region that draws its order, by hand: the held condition S is wanted until operation d has come up, and no longer (so a region's own last stores may turn cells that its loads read). No program is named here. -/
namespace Go.Proofs.YtjdojogjogenkaaDoor
open Go.RowKit
set_option linter.unusedVariables false

/-- Whatever order is picked; behind each operation ahead of d S holds. -/
def wpAnyD (P : Program) (md : Region.Mode) (ops : Array Oper) (Q : Exit → Act → World → Prop) (S : World → Prop) (d : Nat) : Nat → Array Bool → Act → World → Prop
  | 0, listed, a, w => Region.ready md ops listed = [] ∧ Q .normal a w
  | fuel + 1, listed, a, w =>
    (Region.ready md ops listed = [] → Q .normal a w) ∧
    ∀ i ∈ Region.ready md ops listed, wpOp P ops Q i (fun a' w' => (i ≠ d → listed.getD d false = false → S w') ∧ wpAnyD P md ops Q S d fuel (listed.setIfInBounds i true) a' w') a w
section
variable {P : Program} {ops : Array Oper} {Q : Exit → Act → World → Prop} {md : Region.Mode} {S : World → Prop} {d : Nat}
theorem wpAny_of_stage : ∀ (fuel : Nat) (listed : Array Bool) (a : Act) (w : World), wpAnyD P md ops Q S d fuel listed a w → wpAny P md ops Q fuel listed a w
  | 0, _, _, _, h => h
  | fuel + 1, _, _, _, h => ⟨h.1, fun i hi => wpOp_mono (fun a' w' h' => wpAny_of_stage fuel _ a' w' h'.2) (h.2 i hi)⟩
theorem wpAnyD_done {listed : Array Bool} {a : Act} {w : World} (hr : Region.ready md ops listed = []) (h : Q .normal a w) : ∀ fuel, wpAnyD P md ops Q S d fuel listed a w
  | 0 => ⟨hr, h⟩
  | _ + 1 => ⟨fun _ => h, by rw [hr]; simp⟩
theorem getD_other {l : Array Bool} {i j : Nat} (h : i ≠ j) (b : Bool) : (l.setIfInBounds i true).getD j b = l.getD j b := by
  simp only [Array.getD_eq_getD_getElem?]
  rw [Array.getElem?_setIfInBounds, if_neg h]
/-- An operation that d waits for, or one that yields in whatever world, may be taken first. -/
theorem wpAnyD_first {i : Nat} {oi : Oper} {v : Value} (hi : ops[i]? = some oi) (hsel : ∀ (j : Nat) (o : Oper) cs b, ops[j]? = some o → o.op ≠ .select cs b)
    (hQ : ∀ c a w, Q (.panic c) (a.put oi.dst v) w → Q (.panic c) a w) (hid : i ≠ d) (T : World → Prop)
    (hT : (∀ w, T w) ∨ ((∀ w, S w → T w) ∧ ∀ od, ops[d]? = some od → ∃ e ∈ od.after, Region.binds md e = true ∧ e.on = i)) :
    ∀ (fuel : Nat) (listed : Array Bool) (a : Act) (w : World),
      (∀ j oj, ops[j]? = some oj → j ≠ i → listed.getD j true = false → (∀ e ∈ oj.after, Region.binds md e = true → e.on ≠ i) → oi.apart ops oj = true) →
      i ∈ Region.ready md ops listed → YieldsIf P ops T oi v a → (listed.getD d false = false → S w) → ((∀ w, T w) ∨ listed.getD d false = false) →
      wpAnyD P md ops Q S d fuel (listed.setIfInBounds i true) (a.put oi.dst v) w → wpAnyD P md ops Q S d (fuel + 1) listed a w := by
  intro fuel
  induction fuel with
  | zero =>
    intro listed a w _ hr hy hS hl H
    refine ⟨fun h => (by rw [h] at hr; cases hr), fun j hj => ?_⟩
    by_cases hji : j = i
    · subst hji
      have hTw : T w := by
        rcases hT with h | h
        · exact h w
        · rcases hl with h' | h'
          · exact h' w
          · exact h.1 w (hS h')
      exact hy.wpOp hi hTw ⟨fun _ h => hS h, H⟩
    · have := ready_mono hj hji
      rw [H.1] at this
      cases this
  | succ fuel ih =>
    intro listed a w hfree hr hy hS hl H
    refine ⟨fun h => (by rw [h] at hr; cases hr), fun j hj => ?_⟩
    by_cases hji : j = i
    · subst hji
      have hTw : T w := by
        rcases hT with h | h
        · exact h w
        · rcases hl with h' | h'
          · exact h' w
          · exact h.1 w (hS h')
      exact hy.wpOp hi hTw ⟨fun _ h => hS h, H⟩
    · have h1 := H.2 j (ready_mono hj hji)
      obtain ⟨hjun, oj, hoj, hall⟩ := mem_ready.1 hj
      have hnot : ∀ e ∈ oj.after, Region.binds md e = true → e.on ≠ i := fun e he hb heq => by
        have h1 := hall e he hb
        have h0 := (mem_ready.1 hr).1
        rw [heq] at h1
        rcases Nat.lt_or_ge i listed.size with h' | h'
        · simp [h'] at h0 h1; rw [h0] at h1; cases h1
        · simp [Array.getElem?_eq_none h'] at h1
      have h2 := wpOp_putIf hoj (hfree j oj hoj hji hjun hnot) (fun cs b => hsel i oi cs b hi) (fun cs b => hsel j oj cs b hoj) hQ hy h1
      have hfree' : ∀ k ok, ops[k]? = some ok → k ≠ i → (listed.setIfInBounds j true).getD k true = false →
          (∀ e ∈ ok.after, Region.binds md e = true → e.on ≠ i) → oi.apart ops ok = true := fun k ok hk hki hun hno => by
        refine hfree k ok hk hki ?_ hno
        by_cases hjk : j = k
        · subst hjk; exact hjun
        · rw [getD_set_ne true hjk] at hun; exact hun
      have hgi : (listed.setIfInBounds i true).getD d false = listed.getD d false := getD_other hid false
      refine wpOp_mono (fun a' w' h3 => ?_) h2
      have hS' : j ≠ d → listed.getD d false = false → S w' := fun h h' => h3.2.1 h (by rw [hgi]; exact h')
      refine ⟨hS', ih (listed.setIfInBounds j true) a' w' hfree' (ready_mono hr (Ne.symm hji)) h3.1 ?_ ?_ ?_⟩
      · intro hd
        by_cases hjd : j = d
        · subst hjd
          have hlt : j < listed.size := by
            rcases Nat.lt_or_ge j listed.size with h | h
            · exact h
            · have := (mem_ready.1 hj).1
              simp [Array.getElem?_eq_none h] at this
          simp [Array.getD_eq_getD_getElem?, Array.getElem?_setIfInBounds, hlt] at hd
        · rw [getD_other hjd] at hd
          exact hS' hjd hd
      · rcases hl with h' | h'
        · exact .inl h'
        · rcases hT with h | h
          · exact .inl h
          · refine .inr ?_
            have hjd : j ≠ d := by
              rintro rfl
              obtain ⟨e, he, hb, hon⟩ := h.2 oj hoj
              exact hnot e he hb hon
            rw [getD_other hjd]
            exact h'
      · rw [Array.setIfInBounds_comm _ _ hji]
        exact h3.2.2
end
section
variable {P : Program} {l : List Oper} {Q : Exit → Act → World → Prop} {md : Region.Mode} {S : World → Prop} {d : Nat}
theorem stage_start {id : Nat} {a : Act} {w : World} (d : Nat) (hm : P.follows .mixedOrders = true) (hS : S w.drew)
    (h : S w.drew → wpAnyD P .any l.toArray Q S d l.toArray.size (Array.replicate l.toArray.size false) a w.drew) : (Code.region id l.toArray true).wp P Q a w :=
  wp_region_any hm (wpAny_of_stage _ _ _ _ (h hS))
/-- Does operation d wait for operation i? -/
def waitsB (md : Region.Mode) (ops : Array Oper) (d i : Nat) : Bool := match ops[d]? with
  | some od => od.after.any fun e => Region.binds md e && e.on == i
  | none => true
theorem waitsB_spec {ops : Array Oper} {i : Nat} (h : waitsB md ops d i = true) : ∀ od, ops[d]? = some od → ∃ e ∈ od.after, Region.binds md e = true ∧ e.on = i := by
  intro od ho
  unfold waitsB at h
  rw [ho] at h
  obtain ⟨e, he, h⟩ := Array.any_eq_true'.1 h
  simp only [Bool.and_eq_true, beq_iff_eq] at h
  exact ⟨e, he, h⟩
/-- A load ahead of d. -/
theorem st_run {i : Nat} {oi : Oper} {rest : List Oper} {v : Value} {fuel : Nat} {listed : Array Bool} {a : Act} {w : World} (hi : l.drop i = oi :: rest)
    (hs : Region.noSelect l.toArray = true) (hf : Region.free md l.toArray listed i = true) (hr : (Region.ready md l.toArray listed).contains i = true) (hid : (i != d && waitsB md l.toArray d i && !listed.getD d false) = true)
    (hQ : ∀ c a w, Q (.panic c) (a.put oi.dst v) w → Q (.panic c) a w) (hw : Region.wanted oi (yielded l.toArray a.tmps) = true) (hy : ∀ w, S w → (execOp a.eval oi).run P w = .ok (.value v) w) (hS : S w)
    (h : wpAnyD P md l.toArray Q S d fuel (listed.setIfInBounds i true) (a.put oi.dst v) w) : wpAnyD P md l.toArray Q S d (fuel + 1) listed a w := by
  simp only [Bool.and_eq_true, bne_iff_ne, Bool.not_eq_true'] at hid
  exact wpAnyD_first (drop_get hi) (Region.noSelect_spec hs) hQ hid.1.1 S (.inr ⟨fun _ h => h, waitsB_spec hid.1.2⟩) fuel listed a w (Region.free_spec (drop_get hi) hf) (by simpa using hr) (.inl ⟨hw, hy⟩) (fun _ => hS) (.inr hid.2) h
/-- An operation that yields in whatever world. -/
theorem st_pure {i : Nat} {oi : Oper} {rest : List Oper} {v : Value} {fuel : Nat} {listed : Array Bool} {a : Act} {w : World} (hi : l.drop i = oi :: rest)
    (hs : Region.noSelect l.toArray = true) (hf : Region.free md l.toArray listed i = true) (hr : (Region.ready md l.toArray listed).contains i = true) (hid : (i != d) = true)
    (hQ : ∀ c a w, Q (.panic c) (a.put oi.dst v) w → Q (.panic c) a w) (hw : Region.wanted oi (yielded l.toArray a.tmps) = true) (hy : ∀ w, (execOp a.eval oi).run P w = .ok (.value v) w) (hS : S w ∨ listed.getD d false = true)
    (h : wpAnyD P md l.toArray Q S d fuel (listed.setIfInBounds i true) (a.put oi.dst v) w) : wpAnyD P md l.toArray Q S d (fuel + 1) listed a w := by
  refine wpAnyD_first (drop_get hi) (Region.noSelect_spec hs) hQ (by simpa using hid) (fun _ => True) (.inl fun _ => trivial) fuel listed a w (Region.free_spec (drop_get hi) hf) (by simpa using hr) (.inl ⟨hw, fun w _ => hy w⟩) (fun h => ?_) (.inl fun _ => trivial) h
  rcases hS with hS | hS
  · exact hS
  · rw [h] at hS; cases hS
/-- An operation whose guard bars it. -/
theorem st_bar {i : Nat} {oi : Oper} {rest : List Oper} {fuel : Nat} {listed : Array Bool} {a : Act} {w : World} (hi : l.drop i = oi :: rest)
    (hs : Region.noSelect l.toArray = true) (hf : Region.free md l.toArray listed i = true) (hr : (Region.ready md l.toArray listed).contains i = true) (hid : (i != d) = true)
    (hQ : ∀ c a w, Q (.panic c) (a.put oi.dst undef) w → Q (.panic c) a w) (hw : Region.wanted oi (yielded l.toArray a.tmps) = false) (hS : S w ∨ listed.getD d false = true)
    (h : wpAnyD P md l.toArray Q S d fuel (listed.setIfInBounds i true) (a.put oi.dst undef) w) : wpAnyD P md l.toArray Q S d (fuel + 1) listed a w := by
  refine wpAnyD_first (drop_get hi) (Region.noSelect_spec hs) hQ (by simpa using hid) (fun _ => True) (.inl fun _ => trivial) fuel listed a w (Region.free_spec (drop_get hi) hf) (by simpa using hr) (.inr ⟨hw, rfl⟩) (fun h => ?_) (.inl fun _ => trivial) h
  rcases hS with hS | hS
  · exact hS
  · rw [h] at hS; cases hS
theorem st_ready {rs : List Nat} {fuel : Nat} {listed : Array Bool} {a : Act} {w : World} (hr : Region.ready md l.toArray listed = rs) (hne : rs ≠ [])
    (h : ∀ i ∈ rs, ∃ o, l.toArray[i]? = some o ∧ Region.wanted o (yielded l.toArray a.tmps) = true ∧ ∀ K' : Act → World → Prop, Shut (∀ a w, (i ≠ d → listed.getD d false = false → S w) → wpAnyD P md l.toArray Q S d fuel (listed.setIfInBounds i true) a w → K' a w) → Oper.wp P o a w K' Q) :
    wpAnyD P md l.toArray Q S d (fuel + 1) listed a w := by
  refine ⟨fun h0 => absurd (hr ▸ h0) hne, hr ▸ fun i hi => ?_⟩
  obtain ⟨o, ho, hw, h⟩ := h i hi
  refine wpOp_step ho fun K' hK => ?_
  rw [if_pos hw]
  exact h K' fun a w h1 h2 => hK a w ⟨h1, h2⟩
/-- The one operation that may come up, ahead of d. -/
theorem st_one {i : Nat} {o : Oper} {rest : List Oper} {fuel : Nat} {listed : Array Bool} {a : Act} {w : World} (hi : l.drop i = o :: rest) (hr : Region.ready md l.toArray listed = [i]) (hw : Region.wanted o (yielded l.toArray a.tmps) = true)
    (h : ∀ K' : Act → World → Prop, Shut (∀ a w, S w → (S w → wpAnyD P md l.toArray Q S d fuel (listed.setIfInBounds i true) a w) → K' a w) → Oper.wp P o a w K' Q) : wpAnyD P md l.toArray Q S d (fuel + 1) listed a w := by
  refine st_ready hr (by simp) fun j hj => ?_
  obtain rfl := List.mem_singleton.1 hj
  exact ⟨o, drop_get hi, hw, fun K' hK => h K' fun a w hS hW => hK.out a w (fun _ _ => hS) (hW hS)⟩
/-- The one operation that may come up, d itself or one behind it: S is wanted no longer. -/
theorem st_late {i : Nat} {o : Oper} {rest : List Oper} {fuel : Nat} {listed : Array Bool} {a : Act} {w : World} (hi : l.drop i = o :: rest) (hr : Region.ready md l.toArray listed = [i]) (hw : Region.wanted o (yielded l.toArray a.tmps) = true) (hd : (i == d || listed.getD d false) = true)
    (h : ∀ K' : Act → World → Prop, Shut (∀ a w, wpAnyD P md l.toArray Q S d fuel (listed.setIfInBounds i true) a w → K' a w) → Oper.wp P o a w K' Q) : wpAnyD P md l.toArray Q S d (fuel + 1) listed a w := by
  refine st_ready hr (by simp) fun j hj => ?_
  obtain rfl := List.mem_singleton.1 hj
  refine ⟨o, drop_get hi, hw, fun K' hK => h K' fun a w hW => hK.out a w (fun h1 h2 => ?_) hW⟩
  rw [Bool.or_eq_true] at hd
  rcases hd with hd | hd
  · exact absurd (by simpa using hd) h1
  · rw [h2] at hd; cases hd
/-- Two operations that may come up, ahead of d. -/
theorem st_two {i j : Nat} {o o' : Oper} {rest rest' : List Oper} {fuel : Nat} {listed : Array Bool} {a : Act} {w : World} (hi : l.drop i = o :: rest) (hj : l.drop j = o' :: rest') (hr : Region.ready md l.toArray listed = [i, j]) (hwi : Region.wanted o (yielded l.toArray a.tmps) = true) (hwj : Region.wanted o' (yielded l.toArray a.tmps) = true)
    (h1 : ∀ K' : Act → World → Prop, Shut (∀ a w, S w → (S w → wpAnyD P md l.toArray Q S d fuel (listed.setIfInBounds i true) a w) → K' a w) → Oper.wp P o a w K' Q)
    (h2 : ∀ K' : Act → World → Prop, Shut (∀ a w, S w → (S w → wpAnyD P md l.toArray Q S d fuel (listed.setIfInBounds j true) a w) → K' a w) → Oper.wp P o' a w K' Q) : wpAnyD P md l.toArray Q S d (fuel + 1) listed a w := by
  refine st_ready hr (by simp) fun k hk => ?_
  rcases List.mem_cons.1 hk with rfl | hk
  · exact ⟨o, drop_get hi, hwi, fun K' hK => h1 K' fun a w hS hW => hK.out a w (fun _ _ => hS) (hW hS)⟩
  · obtain rfl := List.mem_singleton.1 hk
    exact ⟨o', drop_get hj, hwj, fun K' hK => h2 K' fun a w hS hW => hK.out a w (fun _ _ => hS) (hW hS)⟩
end
end Go.Proofs.YtjdojogjogenkaaDoor

/- Steps of a region that draws its order, with their checks by themselves. No program is named here. -/
namespace Go.Proofs.YtjdojogjogenkaaDoor
open Go.RowKit
set_option linter.unusedVariables false

theorem sA {α : Type} {i : Nat} {a : α} {l : List α} : l.toArray.setIfInBounds i a = (l.set i a).toArray := List.setIfInBounds_toArray ..
theorem sB {α : Type} {x a : α} {l : List α} : (x :: l).set 0 a = a :: l := rfl
theorem sC {α : Type} {x a : α} {n : Nat} {l : List α} : (x :: l).set (n + 1) a = x :: l.set n a := rfl
section
variable {P : Program} {l : List Oper} {Q : Exit → Act → World → Prop} {md : Region.Mode} {S : World → Prop}
theorem tk (i : Nat) {oi : Oper} {rest : List Oper} {v : Value} {fuel : Nat} {listed : Array Bool} {a : Act} {w : World} (hi : l.drop i = oi :: rest)
    (hy : ∀ w, S w → (execOp a.eval oi).run P w = .ok (.value v) w)
    (h : wpAnyH P md l.toArray Q S fuel (listed.setIfInBounds i true) (a.put oi.dst v) w)
    (hs : Region.noSelect l.toArray = true := by kernel_rfl) (hf : Region.free md l.toArray listed i = true := by kernel_rfl) (hr : (Region.ready md l.toArray listed).contains i = true := by kernel_rfl)
    (hQ : ∀ c a w, Q (.panic c) (a.put oi.dst v) w → Q (.panic c) a w := by exact fun _ _ _ h => h) (hw : Region.wanted oi (yielded l.toArray a.tmps) = true := by rfl) (hS : S w := by assumption) : wpAnyH P md l.toArray Q S (fuel + 1) listed a w :=
  take_run hi hs hf hr hQ hw hy hS h
theorem tb (i : Nat) {oi : Oper} {rest : List Oper} {fuel : Nat} {listed : Array Bool} {a : Act} {w : World} (hi : l.drop i = oi :: rest)
    (h : wpAnyH P md l.toArray Q S fuel (listed.setIfInBounds i true) (a.put oi.dst undef) w)
    (hs : Region.noSelect l.toArray = true := by kernel_rfl) (hf : Region.free md l.toArray listed i = true := by kernel_rfl) (hr : (Region.ready md l.toArray listed).contains i = true := by kernel_rfl)
    (hQ : ∀ c a w, Q (.panic c) (a.put oi.dst undef) w → Q (.panic c) a w := by exact fun _ _ _ h => h) (hw : Region.wanted oi (yielded l.toArray a.tmps) = false := by rfl) (hS : S w := by assumption) : wpAnyH P md l.toArray Q S (fuel + 1) listed a w :=
  take_bar hi hs hf hr hQ hw hS h
end
section
variable {P : Program} {l : List Oper} {Q : Exit → Act → World → Prop} {md : Region.Mode} {S : World → Prop} {d : Nat}
theorem sk (i : Nat) {oi : Oper} {rest : List Oper} {v : Value} {fuel : Nat} {listed : Array Bool} {a : Act} {w : World} (hi : l.drop i = oi :: rest)
    (hy : ∀ w, (execOp a.eval oi).run P w = .ok (.value v) w)
    (h : wpAnyD P md l.toArray Q S d fuel (listed.setIfInBounds i true) (a.put oi.dst v) w)
    (hs : Region.noSelect l.toArray = true := by kernel_rfl) (hf : Region.free md l.toArray listed i = true := by kernel_rfl) (hr : (Region.ready md l.toArray listed).contains i = true := by kernel_rfl) (hid : (i != d) = true := by kernel_rfl)
    (hQ : ∀ c a w, Q (.panic c) (a.put oi.dst v) w → Q (.panic c) a w := by exact fun _ _ _ h => h) (hw : Region.wanted oi (yielded l.toArray a.tmps) = true := by rfl) (hS : S w := by assumption) : wpAnyD P md l.toArray Q S d (fuel + 1) listed a w :=
  st_pure hi hs hf hr hid hQ hw hy (.inl hS) h
theorem sl (i : Nat) {oi : Oper} {rest : List Oper} {v : Value} {fuel : Nat} {listed : Array Bool} {a : Act} {w : World} (hi : l.drop i = oi :: rest)
    (hy : ∀ w, S w → (execOp a.eval oi).run P w = .ok (.value v) w)
    (h : wpAnyD P md l.toArray Q S d fuel (listed.setIfInBounds i true) (a.put oi.dst v) w)
    (hs : Region.noSelect l.toArray = true := by kernel_rfl) (hf : Region.free md l.toArray listed i = true := by kernel_rfl) (hr : (Region.ready md l.toArray listed).contains i = true := by kernel_rfl) (hid : (i != d && waitsB md l.toArray d i && !listed.getD d false) = true := by kernel_rfl)
    (hQ : ∀ c a w, Q (.panic c) (a.put oi.dst v) w → Q (.panic c) a w := by exact fun _ _ _ h => h) (hw : Region.wanted oi (yielded l.toArray a.tmps) = true := by rfl) (hS : S w := by assumption) : wpAnyD P md l.toArray Q S d (fuel + 1) listed a w :=
  st_run hi hs hf hr hid hQ hw hy hS h
theorem sbar (i : Nat) {oi : Oper} {rest : List Oper} {fuel : Nat} {listed : Array Bool} {a : Act} {w : World} (hi : l.drop i = oi :: rest)
    (h : wpAnyD P md l.toArray Q S d fuel (listed.setIfInBounds i true) (a.put oi.dst undef) w)
    (hs : Region.noSelect l.toArray = true := by kernel_rfl) (hf : Region.free md l.toArray listed i = true := by kernel_rfl) (hr : (Region.ready md l.toArray listed).contains i = true := by kernel_rfl) (hid : (i != d) = true := by kernel_rfl)
    (hQ : ∀ c a w, Q (.panic c) (a.put oi.dst undef) w → Q (.panic c) a w := by exact fun _ _ _ h => h) (hw : Region.wanted oi (yielded l.toArray a.tmps) = false := by rfl) (hS : S w := by assumption) : wpAnyD P md l.toArray Q S d (fuel + 1) listed a w :=
  st_bar hi hs hf hr hid hQ hw (.inl hS) h
end
end Go.Proofs.YtjdojogjogenkaaDoor

/- Rows of numbers that are known whole; made. -/
namespace Go.Proofs.YtjdojogjogenkaaDoor
open Go.RowKit
set_option linter.unusedVariables false

def icells (l : List Int) : Array Value := (l.map fun x => Value.int .i64 x).toArray
theorem icells_size (l : List Int) : (icells l).size = l.length := by simp [icells]
theorem icells_get {l : List Int} {i : Nat} {x : Int} (h : l[i]? = some x) : (icells l)[i]? = some (.int .i64 x) := by simp [icells, h]
theorem icells_set (l : List Int) (i : Nat) (x : Int) : (icells l).setIfInBounds i (.int .i64 x) = icells (l.set i x) := by
  apply Array.ext'
  simp [icells, List.map_set]
theorem icells_made (n : Nat) : madeCells #[.int .i64 0] n = icells (List.replicate n 0) := by
  apply Array.ext'
  simp only [madeCells, icells, Array.toList_map, Array.toList_range, List.map_replicate]
  apply List.ext_getElem
  · simp
  · intro i h1 h2
    simp [Nat.mod_one]
theorem els_icells {w : World} {S : Nat → Prop} {g : Nat} {t : TypeId} {ms : List Int} (hb : Blk' w g t (icells ms)) (h : ∀ v ∈ ms, I64 v) (hS : S g) : Els w S ms (some ⟨g, 0, none⟩) :=
  fun _ => ⟨g, 0, rfl, hS, fun i x hi => ⟨[.int .i64 x], ⟨rfl, h x (List.mem_of_getElem? hi)⟩, fun j u hu => by
    match j, hu with
    | 0, hu =>
      simp at hu; subst hu
      have e : 0 + i * Dat.size Int + 0 = i := by show 0 + i * 1 + 0 = i; omega
      rw [e, hb.cell]
      exact icells_get hi⟩⟩
theorem mkInts (n : Nat) (hn : n ≤ 1000000) (W : World) : (Instr.makeSlice 33 (.int .i64 (n : Int)) (.int .i64 (n : Int))).run Tryd.prog W = .ok (.slice (some ⟨W.heap.size, 0, none⟩) n n) (W.alloc (.cells (icells (List.replicate n 0)) 3)) := by
  rw [← icells_made]
  exact run_make_row' (P := Tryd.prog) 33 3 (.int .i64 0) 8 Tryd.underlying33 infoInt rfl .i64 .i64 n (by omega) (by omega) W

end Go.Proofs.YtjdojogjogenkaaDoor

/- A row of packs (a rule and a slice of kids each) at the head of a block: its elements read, two changed. -/
namespace Go.Proofs.YtjdojogjogenkaaDoor
open Go.RowKit
set_option linter.unusedVariables false

structure PkV where
  r : Int
  a : Option Addr
  n : Nat
  c : Nat
def PkV.v (p : PkV) : Value := .agg #[.int .i64 p.r, .slice p.a p.n p.c]
/-- A row of packs at the head of a block. -/
def RowF (w : World) (g : Nat) (ps : List PkV) : Prop := ∃ cur, Blk' w g 155 cur ∧ ∀ (i : Nat) (p : PkV), ps[i]? = some p → cur[i * 2]? = some (.int .i64 p.r) ∧ cur[i * 2 + 1]? = some (.slice p.a p.n p.c)
theorem RowF.cell0 {w : World} {g : Nat} {ps : List PkV} (h : RowF w g ps) {i : Nat} {p : PkV} (hx : ps[i]? = some p) : w.cell? ⟨g, i * 2, none⟩ = some (.int .i64 p.r) := by
  obtain ⟨cur, hb, hc⟩ := h
  rw [hb.cell]; exact (hc i p hx).1
theorem RowF.cell1 {w : World} {g : Nat} {ps : List PkV} (h : RowF w g ps) {i : Nat} {p : PkV} (hx : ps[i]? = some p) : w.cell? ⟨g, i * 2 + 1, none⟩ = some (.slice p.a p.n p.c) := by
  obtain ⟨cur, hb, hc⟩ := h
  rw [hb.cell]; exact (hc i p hx).2
theorem RowF.frozen {w : World} {g : Nat} {ps : List PkV} (h : RowF w g ps) (i : Nat) : w.frozen? ⟨g, i, none⟩ = false := by
  obtain ⟨cur, hb, _⟩ := h
  exact hb.frozen i
theorem RowF.lt {w : World} {g : Nat} {ps : List PkV} (h : RowF w g ps) : g < w.heap.size := by
  obtain ⟨cur, hb, _⟩ := h
  exact hb.lt
theorem RowF.set_ {w : World} {g : Nat} {ps : List PkV} (h : RowF w g ps) (i : Nat) (p : PkV) : RowF ((w.setCell ⟨g, i * 2, none⟩ (.int .i64 p.r)).setCell ⟨g, i * 2 + 1, none⟩ (.slice p.a p.n p.c)) g (ps.set i p) := by
  obtain ⟨cur, hb, hc⟩ := h
  refine ⟨_, (hb.set_ (i * 2) _).set_ (i * 2 + 1) _, fun j x hx => ?_⟩
  by_cases e : i = j
  · subst e
    have hl : i < ps.length := by have := (List.getElem?_eq_some_iff.1 hx).1; simpa using this
    rw [List.getElem?_set_self hl] at hx
    injection hx with hx
    subst hx
    have h2 := hc i ps[i] (List.getElem?_eq_getElem hl)
    have h3 := (Array.getElem?_eq_some_iff.1 h2.1).1
    have h4 := (Array.getElem?_eq_some_iff.1 h2.2).1
    refine ⟨?_, ?_⟩
    · simp [Array.getElem?_setIfInBounds, h3]
    · simp [Array.getElem?_setIfInBounds, h4]
  · rw [List.getElem?_set_ne e] at hx
    obtain ⟨h1, h2⟩ := hc j x hx
    refine ⟨?_, ?_⟩
    · rw [Array.getElem?_setIfInBounds_ne (by omega), Array.getElem?_setIfInBounds_ne (by omega)]; exact h1
    · rw [Array.getElem?_setIfInBounds_ne (by omega), Array.getElem?_setIfInBounds_ne (by omega)]; exact h2
theorem RowF.kept {w w' : World} {X : Nat → Prop} {g : Nat} {ps : List PkV} (h : RowF w g ps) (k : Kept X w w') (hx : ¬ X g) : RowF w' g ps := by
  obtain ⟨cur, hb, hc⟩ := h
  exact ⟨cur, hb.kept k hx, hc⟩
theorem RowF.below {w w' : World} {g : Nat} {ps : List PkV} (h : RowF w g ps) (k : Below w.heap.size w w') : RowF w' g ps := by
  obtain ⟨cur, hb, hc⟩ := h
  exact ⟨cur, hb.below k hb.lt, hc⟩
theorem fswap_perm {ys : List PkV} {i j : Nat} {a b : PkV} (ha : ys[i]? = some a) (hb : ys[j]? = some b) : ((ys.set i b).set j a).Perm ys := by
  obtain ⟨h1, rfl⟩ := List.getElem?_eq_some_iff.1 ha
  obtain ⟨h2, rfl⟩ := List.getElem?_eq_some_iff.1 hb
  exact List.set_set_perm h1 h2
theorem pair_kept {w w' : World} {g i : Nat} {u v : Value} (h : Kept (fun b => b = g) w w') : Kept (fun b => b = g) w ((w'.setCell ⟨g, i * 2, none⟩ u).setCell ⟨g, i * 2 + 1, none⟩ v) :=
  (h.setCell (p := ⟨g, i * 2, none⟩) (.inl rfl) _).setCell (p := ⟨g, i * 2 + 1, none⟩) (.inl rfl) _
/-- What a function that only permutes the row gives. -/
def RetPm (w : World) (g : Nat) (ps : List PkV) (e : Ending) (w' : World) : Prop := e = .returned (.tuple #[]) ∧ ∃ qs : List PkV, RowF w' g qs ∧ qs.Perm ps ∧ Kept (fun b => b = g) w w'
/-- What is wanted of the comparison. -/
def CmpOk (w0 : World) (g : Nat) (ps : List PkV) : Prop :=
  ∀ p ∈ ps, ∀ q ∈ ps, ∀ W : World, Kept (fun b => b = g) w0 W → Calls Tryd.prog 132 #[p.v, q.v] W fun e w' => (∃ k : Int, e = .returned (.int .i64 k)) ∧ Below W.heap.size W w'
theorem CmpOk.perm {w0 w1 : World} {g : Nat} {ps qs : List PkV} (h : CmpOk w0 g ps) (hp : qs.Perm ps) (hk : Kept (fun b => b = g) w0 w1) : CmpOk w1 g qs :=
  fun p hp1 q hq W hW => h p (hp.subset hp1) q (hp.subset hq) W (hk.trans hW)
theorem RetPm.refl {w : World} {g : Nat} {ps : List PkV} (h : RowF w g ps) : RetPm w g ps (.returned (.tuple #[])) w := ⟨rfl, ps, h, List.Perm.refl _, Kept.refl _ _⟩
end Go.Proofs.YtjdojogjogenkaaDoor

/- slices.SortFunc at nodes of a forest, laid for the shelf's contract. -/
namespace Go.Proofs.YtjdojogjogenkaaDoor
open Go.Shelf

def sortK_ren : Go.Shelf.Ren := ⟨fun | 6 => 129 | 15 => 150 | 14 => 155 | 28 => 170 | 29 => 171 | 20 => 172 | 21 => 173 | 22 => 174 | 23 => 175 | 24 => 176 | 25 => 177 | 26 => 178 | 27 => 179 | 46 => 191 | 47 => 187 | 48 => 188 | 49 => 192 | 50 => 193 | 57 => 197 | n => n, fun | 22 => 198 | 24 => 194 | 25 => 205 | 3 => 3 | 39 => 182 | 0 => 0 | 53 => 195 | 55 => 223 | 4 => 4 | 46 => 244 | 45 => 243 | 50 => 219 | 5 => 5 | 9 => 9 | 66 => 260 | 70 => 107 | 76 => 267 | 77 => 268 | n => n, fun | n => n⟩
theorem sortK : Go.Proofs.SlLaysF0.n6 Tryd.prog sortK_ren := {
  mixed := by kernel_rfl,
  f6 := ⟨Tryd.f129.name, by decide, Tryd.func129.trans (congrArg some (by kernel_rfl))⟩,
  f14 := ⟨Tryd.f155.name, by decide, Tryd.func155.trans (congrArg some (by kernel_rfl))⟩,
  f15 := Tryd.func150.trans (congrArg some (by kernel_rfl)),
  f20 := ⟨Tryd.f172.name, by decide, Tryd.func172.trans (congrArg some (by kernel_rfl))⟩,
  f21 := ⟨Tryd.f173.name, by decide, Tryd.func173.trans (congrArg some (by kernel_rfl))⟩,
  f22 := ⟨Tryd.f174.name, by decide, Tryd.func174.trans (congrArg some (by kernel_rfl))⟩,
  f23 := ⟨Tryd.f175.name, by decide, Tryd.func175.trans (congrArg some (by kernel_rfl))⟩,
  f24 := ⟨Tryd.f176.name, by decide, Tryd.func176.trans (congrArg some (by kernel_rfl))⟩,
  f25 := ⟨Tryd.f177.name, by decide, Tryd.func177.trans (congrArg some (by kernel_rfl))⟩,
  f26 := ⟨Tryd.f178.name, by decide, Tryd.func178.trans (congrArg some (by kernel_rfl))⟩,
  f27 := ⟨Tryd.f179.name, by decide, Tryd.func179.trans (congrArg some (by kernel_rfl))⟩,
  f28 := Tryd.func170.trans (congrArg some (by kernel_rfl)),
  f29 := Tryd.func171.trans (congrArg some (by kernel_rfl)),
  f46 := ⟨Tryd.f191.name, by decide, Tryd.func191.trans (congrArg some (by kernel_rfl))⟩,
  f47 := Tryd.func187.trans (congrArg some (by kernel_rfl)),
  f48 := Tryd.func188.trans (congrArg some (by kernel_rfl)),
  f49 := ⟨Tryd.f192.name, by decide, Tryd.func192.trans (congrArg some (by kernel_rfl))⟩,
  f50 := ⟨Tryd.f193.name, by decide, Tryd.func193.trans (congrArg some (by kernel_rfl))⟩,
  f57 := ⟨Tryd.f197.name, by decide, Tryd.func197.trans (congrArg some (by kernel_rfl))⟩,
  t0 := Tryd.underlying0,
  a0 := Tryd.isAgg0,
  z0 := Tryd.sizeOf0,
  v0 := Tryd.zeroValue0,
  t3 := Tryd.underlying3,
  a3 := Tryd.isAgg3,
  z3 := Tryd.sizeOf3,
  v3 := Tryd.zeroValue3,
  t4 := Tryd.underlying4,
  a4 := Tryd.isAgg4,
  z4 := Tryd.sizeOf4,
  v4 := Tryd.zeroValue4,
  t5 := Tryd.underlying5,
  a5 := Tryd.isAgg5,
  z5 := Tryd.sizeOf5,
  v5 := Tryd.zeroValue5,
  t9 := Tryd.underlying9,
  a9 := Tryd.isAgg9,
  z9 := Tryd.sizeOf9,
  v9 := Tryd.zeroValue9,
  t22 := Tryd.underlying198,
  a22 := Tryd.isAgg198,
  z22 := Tryd.sizeOf198,
  v22 := Tryd.zeroValue198,
  t25 := Tryd.underlying205,
  a25 := Tryd.isAgg205,
  z25 := Tryd.sizeOf205,
  v25 := Tryd.zeroValue205,
  t39 := Tryd.underlying182,
  a39 := Tryd.isAgg182,
  z39 := Tryd.sizeOf182,
  v39 := Tryd.zeroValue182,
  t45 := Tryd.underlying243,
  a45 := Tryd.isAgg243,
  z45 := Tryd.sizeOf243,
  v45 := Tryd.zeroValue243,
  t46 := Tryd.underlying244,
  a46 := Tryd.isAgg244,
  z46 := Tryd.sizeOf244,
  v46 := Tryd.zeroValue244,
  t50 := Tryd.underlying219,
  a50 := Tryd.isAgg219,
  z50 := Tryd.sizeOf219,
  v50 := Tryd.zeroValue219,
  t53 := Tryd.underlying195,
  a53 := Tryd.isAgg195,
  z53 := Tryd.sizeOf195,
  v53 := Tryd.zeroValue195,
  t55 := Tryd.underlying223,
  a55 := Tryd.isAgg223,
  z55 := Tryd.sizeOf223,
  v55 := Tryd.zeroValue223,
  t66 := Tryd.underlying260,
  a66 := Tryd.isAgg260,
  z66 := Tryd.sizeOf260,
  v66 := Tryd.zeroValue260,
  t70 := Tryd.underlying107,
  a70 := Tryd.isAgg107,
  z70 := Tryd.sizeOf107,
  v70 := Tryd.zeroValue107,
  t76 := Tryd.underlying267,
  a76 := Tryd.isAgg267,
  z76 := Tryd.sizeOf267,
  v76 := Tryd.zeroValue267,
  t77 := Tryd.underlying268,
  a77 := Tryd.isAgg268,
  z77 := Tryd.sizeOf268,
  v77 := Tryd.zeroValue268 }
end Go.Proofs.YtjdojogjogenkaaDoor

/- Plain: the order of lists of ints. No program is named here. -/
namespace Go.Proofs.YtjdojogjogenkaaDoor
open Go.RowKit
set_option linter.unusedVariables false

def cmpL : List Int → List Int → Int
  | [], [] => 0
  | [], _ :: _ => -1
  | _ :: _, [] => 1
  | x :: xs, y :: ys => if x < y then -1 else if y < x then 1 else cmpL xs ys
end Go.Proofs.YtjdojogjogenkaaDoor

/- Lists alike up to a place. -/
namespace Go.Proofs.YtjdojogjogenkaaDoor
open Go.RowKit
set_option linter.unusedVariables false

theorem take_ne {α : Type} {xs ys : List α} {k : Nat} {x y : α} (hx : xs[k]? = some x) (hy : ys[k]? = some y) (h : x ≠ y) : xs ≠ ys := by
  rintro rfl; rw [hx] at hy; exact h (by injection hy)
theorem take_eq {α : Type} {xs ys : List α} {k : Nat} {x y : α} (hx : xs[k]? = some x) (hy : ys[k]? = some y) (h : x = y) (ht : xs.take k = ys.take k) : xs.take (k + 1) = ys.take (k + 1) := by
  rw [take_snoc hx, take_snoc hy, ht, h]
theorem take_all {α : Type} {xs ys : List α} {k : Nat} (hl : xs.length = ys.length) (hk : xs.length ≤ k) (ht : xs.take k = ys.take k) : xs = ys := by
  rwa [List.take_of_length_le hk, List.take_of_length_le (by omega)] at ht
end Go.Proofs.YtjdojogjogenkaaDoor

/- The plain law of core.Count's visit: what the rows of states and counts are on the way. No program is named here. -/
namespace Go.Proofs.YtjdojogjogenkaaDoor
set_option linter.unusedVariables false

def gd (l : List Int) (u : Nat) : Int := l.getD u 0
theorem gd_set (l : List Int) (i : Nat) (x : Int) (j : Nat) (hi : i < l.length) : gd (l.set i x) j = if j = i then x else gd l j := by
  unfold gd
  rw [List.getD_eq_getElem?_getD, List.getElem?_set, List.getD_eq_getElem?_getD]
  by_cases e : i = j
  · subst e; simp [hi]
  · rw [if_neg e, if_neg (fun h => e h.symm)]
theorem gd_get {l : List Int} {i : Nat} {x : Int} (h : l[i]? = some x) : gd l i = x := by
  unfold gd
  rw [List.getD_eq_getElem?_getD, h]
  rfl
theorem gd_some {l : List Int} {i : Nat} (h : i < l.length) : l[i]? = some (gd l i) := by
  unfold gd
  rw [List.getD_eq_getElem?_getD, List.getElem?_eq_getElem h]
  rfl
def zeros (l : List Int) : Nat := (l.filter fun x => decide (x = 0)).length
theorem zeros_set : ∀ (l : List Int) (i : Nat) (x : Int), gd l i = 0 → i < l.length → x ≠ 0 → zeros (l.set i x) < zeros l
  | [], i, x, _, h, _ => by simp at h
  | a :: l, 0, x, h, _, hx => by
    have h : a = 0 := h
    subst h
    simp [zeros, hx]
  | a :: l, i + 1, x, h, hl, hx => by
    have ih := zeros_set l i x h (by simpa using hl) hx
    by_cases ha : a = 0
    · simp [zeros, ha] at ih ⊢; omega
    · simp [zeros, ha] at ih ⊢; exact ih
theorem zeros_le : ∀ (l : List Int) (i : Nat) (x : Int), x ≠ 0 → zeros (l.set i x) ≤ zeros l
  | [], i, x, _ => by simp
  | a :: l, 0, x, hx => by
    by_cases ha : a = 0
    · simp [zeros, ha, hx]
    · simp [zeros, ha, hx]
  | a :: l, i + 1, x, hx => by
    have ih := zeros_le l i x hx
    by_cases ha : a = 0
    · simp [zeros, ha] at ih ⊢; omega
    · simp [zeros, ha] at ih ⊢; exact ih
def cnF (cn : List Int) : Nat → Nat := fun k => (gd cn k).toNat
theorem prodM_congr {f f' : Nat → Nat} : ∀ (l : List Int) (x : Nat), (∀ k ∈ l, f k.toNat = f' k.toNat) → prodM f x l = prodM f' x l
  | [], x, _ => rfl
  | k :: l, x, h => by
    show prodM f (min (x * f k.toNat) lim) l = prodM f' (min (x * f' k.toNat) lim) l
    rw [h k (by simp), prodM_congr l _ (fun j hj => h j (by simp [hj]))]
theorem sumM_congr {f f' : Nat → Nat} : ∀ (J : List (List Int)) (x : Nat), (∀ l ∈ J, ∀ k ∈ l, f k.toNat = f' k.toNat) → sumM f x J = sumM f' x J
  | [], x, _ => rfl
  | l :: J, x, h => by
    show sumM f (min (x + prodM f 1 l) lim) J = sumM f' (min (x + prodM f' 1 l) lim) J
    rw [prodM_congr l 1 (h l (by simp)), sumM_congr J _ (fun j hj => h j (by simp [hj]))]
theorem prodM_snoc (f : Nat → Nat) (x : Nat) (l : List Int) (k : Int) : prodM f x (l ++ [k]) = min (prodM f x l * f k.toNat) lim := by
  unfold prodM
  rw [List.foldl_append]
  rfl
theorem sumM_snoc (f : Nat → Nat) (x : Nat) (J : List (List Int)) (l : List Int) : sumM f x (J ++ [l]) = min (sumM f x J + prodM f 1 l) lim := by
  unfold sumM
  rw [List.foldl_append]
  rfl
theorem prodM_le (f : Nat → Nat) (l : List Int) : prodM f 1 l ≤ lim := by
  have key : ∀ (l : List Int) (x : Nat), x ≤ lim → prodM f x l ≤ lim := by
    intro l
    induction l with
    | nil => intro x h; exact h
    | cons k l ih => intro x _; exact ih _ (Nat.min_le_right _ _)
  exact key l 1 (by decide)
theorem sumM_le (f : Nat → Nat) (x : Nat) (J : List (List Int)) (hx : x ≤ lim) : sumM f x J ≤ lim := by
  induction J generalizing x with
  | nil => exact hx
  | cons l J ih => exact ih _ (Nat.min_le_right _ _)

/-- The rows: 0 not yet, 1 begun, 2 done. -/
structure StI (F : List FNode) (st cn : List Int) : Prop where
  sl : st.length = F.length
  cl : cn.length = F.length
  at_ : ∀ u, u < F.length → (gd st u = 0 ∧ gd cn u = 0 ∨ gd st u = 1 ∨ gd st u = 2 ∧ Cn F u (gd cn u).toNat) ∧ 0 ≤ gd cn u ∧ gd cn u ≤ 1000000000
/-- What a visit that ends well changes. -/
structure Mv (F : List FNode) (st cn st' cn' : List Int) : Prop where
  ok : StI F st' cn'
  one : ∀ u, u < F.length → (gd st' u = 1 ↔ gd st u = 1)
  two : ∀ u, u < F.length → gd st u = 2 → gd st' u = 2 ∧ gd cn' u = gd cn u
  onec : ∀ u, u < F.length → gd st u = 1 → gd cn' u = gd cn u
  zer : zeros st' ≤ zeros st
theorem Mv.refl {F : List FNode} {st cn : List Int} (h : StI F st cn) : Mv F st cn st cn := ⟨h, fun _ _ => Iff.rfl, fun _ _ h => ⟨h, rfl⟩, fun _ _ _ => rfl, Nat.le_refl _⟩
/-- Within a visit of v: the packs J are done. -/
structure InV (F : List FNode) (st cn : List Int) (v init : Nat) (J : List (List Int)) (st' cn' : List Int) : Prop where
  ok : StI F st' cn'
  one : ∀ u, u < F.length → (gd st' u = 1 ↔ gd st u = 1 ∨ u = v)
  two : ∀ u, u < F.length → gd st u = 2 → gd st' u = 2 ∧ gd cn' u = gd cn u
  onec : ∀ u, u < F.length → gd st u = 1 → gd cn' u = gd cn u
  zer : zeros st' < zeros st
  cnv : gd cn' v = ((sumM (cnF cn') init J : Nat) : Int)
  done : ∀ l ∈ J, ∀ k ∈ l, gd st' k.toNat = 2
  v0 : gd st v = 0
  vl : v < F.length
theorem InV.begin {F : List FNode} {st cn : List Int} (h : StI F st cn) {v : Nat} (hv : v < F.length) (h0 : gd st v = 0) (t : Bool) : InV F st cn v (if t then 1 else 0) [] (st.set v 1) (if t then cn.set v 1 else cn) := by
  have hs : v < st.length := by rw [h.sl]; exact hv
  have hc : v < cn.length := by rw [h.cl]; exact hv
  have hz : gd cn v = 0 := by
    rcases (h.at_ v hv).1 with h1 | h1 | h1
    · exact h1.2
    · omega
    · omega
  have e1 : ∀ u, gd (st.set v 1) u = if u = v then 1 else gd st u := fun u => gd_set st v 1 u hs
  have e2 : ∀ u, gd (if t then cn.set v 1 else cn) u = if u = v then (if t then 1 else 0) else gd cn u := fun u => by
    cases t
    · simp only [Bool.false_eq_true, if_false]
      split
      · rename_i e; rw [e, hz]
      · rfl
    · simp only [if_true]
      exact gd_set cn v 1 u hc
  refine ⟨⟨by rw [List.length_set]; exact h.sl, by cases t <;> simp [h.cl], fun u hu => ?_⟩, fun u hu => ?_, fun u hu h2 => ?_, fun u hu h2 => ?_, zeros_set st v 1 h0 hs (by decide), ?_, by simp, h0, hv⟩
  · rw [e1, e2]
    by_cases e : u = v
    · rw [if_pos e, if_pos e]
      cases t <;> simp
    · rw [if_neg e, if_neg e]; exact h.at_ u hu
  · rw [e1]
    by_cases e : u = v
    · simp [e]
    · simp [e]
  · rw [e1, e2]
    have e : u ≠ v := fun e => by rw [e, h0] at h2; cases h2
    rw [if_neg e, if_neg e]; exact ⟨h2, rfl⟩
  · rw [e2]
    have e : u ≠ v := fun e => by rw [e, h0] at h2; cases h2
    rw [if_neg e]
  · rw [e2, if_pos rfl]
    cases t <;> rfl
/-- A kid has been visited. -/
theorem InV.kid {F : List FNode} {st cn st1 cn1 st2 cn2 : List Int} {v init : Nat} {J : List (List Int)} (h : InV F st cn v init J st1 cn1) (hk : ∀ l ∈ J, ∀ k ∈ l, k.toNat < F.length) (m : Mv F st1 cn1 st2 cn2) : InV F st cn v init J st2 cn2 := by
  refine ⟨m.ok, fun u hu => (m.one u hu).trans (h.one u hu), fun u hu h2 => ?_, fun u hu h1 => ?_, Nat.lt_of_le_of_lt m.zer h.zer, ?_, fun l hl k hkl => ?_, h.v0, h.vl⟩
  · obtain ⟨a, b⟩ := h.two u hu h2
    obtain ⟨c, d⟩ := m.two u hu a
    exact ⟨c, d.trans b⟩
  · rw [m.onec u hu ((h.one u hu).2 (.inl h1))]; exact h.onec u hu h1
  · rw [m.onec v h.vl ((h.one v h.vl).2 (.inr rfl)), h.cnv]
    rw [sumM_congr J init (fun l hl k hkl => ?_)]
    unfold cnF
    rw [(m.two k.toNat (hk l hl k hkl) (h.done l hl k hkl)).2]
  · exact (m.two k.toNat (hk l hl k hkl) (h.done l hl k hkl)).1
/-- A pack is done. -/
theorem InV.pack {F : List FNode} {st cn st1 cn1 : List Int} {v init : Nat} {J : List (List Int)} (h : InV F st cn v init J st1 cn1) (hk : ∀ l ∈ J, ∀ k ∈ l, k.toNat < F.length) (l : List Int) (hl : ∀ k ∈ l, k.toNat < F.length ∧ gd st1 k.toNat = 2) (x : Int) (hx : x = ((min (sumM (cnF cn1) init J + prodM (cnF cn1) 1 l) lim : Nat) : Int)) : InV F st cn v init (J ++ [l]) st1 (cn1.set v x) := by
  have hc : v < cn1.length := by rw [h.ok.cl]; exact h.vl
  have e2 : ∀ u, gd (cn1.set v x) u = if u = v then x else gd cn1 u := fun u => gd_set cn1 v x u hc
  have hv1 : gd st1 v = 1 := (h.one v h.vl).2 (.inr rfl)
  have hne : ∀ u, gd st1 u = 2 → u ≠ v := fun u h2 e => by rw [e, hv1] at h2; cases h2
  have hcong : ∀ k : Int, gd st1 k.toNat = 2 → cnF (cn1.set v x) k.toNat = cnF cn1 k.toNat := fun k h2 => by
    unfold cnF
    rw [e2, if_neg (hne _ h2)]
  refine ⟨⟨h.ok.sl, by rw [List.length_set]; exact h.ok.cl, fun u hu => ?_⟩, h.one, fun u hu h2 => ?_, fun u hu h1 => ?_, h.zer, ?_, fun l' hl' k hkl => ?_, h.v0, h.vl⟩
  · rw [e2]
    by_cases e : u = v
    · rw [if_pos e]
      refine ⟨.inr (.inl (by rw [e]; exact hv1)), by rw [hx]; omega, by rw [hx]; have : min (sumM (cnF cn1) init J + prodM (cnF cn1) 1 l) lim ≤ lim := Nat.min_le_right _ _; have e3 : lim = 1000000000 := rfl; omega⟩
    · rw [if_neg e]; exact h.ok.at_ u hu
  · obtain ⟨a, b⟩ := h.two u hu h2
    rw [e2, if_neg (hne u a)]
    exact ⟨a, b⟩
  · have e : u ≠ v := fun e => by rw [e, h.v0] at h1; cases h1
    rw [e2, if_neg e]; exact h.onec u hu h1
  · rw [e2, if_pos rfl, sumM_snoc, sumM_congr J init (fun l' hl' k hkl => hcong k (h.done l' hl' k hkl)), prodM_congr l 1 (fun k hkl => hcong k (hl k hkl).2)]
    exact hx
  · rcases List.mem_append.1 hl' with hl' | hl'
    · exact h.done l' hl' k hkl
    · simp at hl'; subst hl'; exact (hl k hkl).2
/-- The node is done. -/
theorem InV.end_ {F : List FNode} {st cn st1 cn1 : List Int} {v : Nat} {nd : FNode} (hnd : F[v]? = some nd) (h : InV F st cn v (if nd.sym.term then 1 else 0) (nd.packs.map (·.kids)) st1 cn1) (hk : ∀ p ∈ nd.packs, ∀ k ∈ p.kids, k.toNat < F.length) : Mv F st cn (st1.set v 2) cn1 ∧ gd (st1.set v 2) v = 2 := by
  have hs : v < st1.length := by rw [h.ok.sl]; exact h.vl
  have e1 : ∀ u, gd (st1.set v 2) u = if u = v then 2 else gd st1 u := fun u => gd_set st1 v 2 u hs
  have hcn : Cn F v (gd cn1 v).toNat := by
    have h1 := Cn.mk v nd (cnF cn1) hnd (fun p hp k hkp => by
      have h2 := h.done p.kids (List.mem_map.2 ⟨p, hp, rfl⟩) k hkp
      rcases (h.ok.at_ k.toNat (hk p hp k hkp)).1 with h3 | h3 | h3
      · omega
      · omega
      · exact h3.2)
    rw [h.cnv, Int.toNat_natCast]
    exact h1
  refine ⟨⟨⟨by rw [List.length_set]; exact h.ok.sl, h.ok.cl, fun u hu => ?_⟩, fun u hu => ?_, fun u hu h2 => ?_, h.onec, Nat.le_trans (zeros_le st1 v 2 (by decide)) (Nat.le_of_lt h.zer)⟩, by rw [e1, if_pos rfl]⟩
  · rw [e1]
    by_cases e : u = v
    · rw [if_pos e, e]; exact ⟨.inr (.inr ⟨rfl, hcn⟩), (h.ok.at_ v h.vl).2⟩
    · rw [if_neg e]; exact h.ok.at_ u hu
  · rw [e1]
    by_cases e : u = v
    · rw [if_pos e, e, h.v0]; simp
    · rw [if_neg e, h.one u hu]; simp [e]
  · rw [e1]
    have e : u ≠ v := fun e => by rw [e, h.v0] at h2; cases h2
    rw [if_neg e]
    exact h.two u hu h2
theorem StI.init (F : List FNode) : StI F (List.replicate F.length 0) (List.replicate F.length 0) := by
  have e : ∀ u, gd (List.replicate F.length 0) u = 0 := fun u => by
    unfold gd
    rw [List.getD_eq_getElem?_getD, List.getElem?_replicate]
    split <;> rfl
  exact ⟨by simp, by simp, fun u hu => by rw [e]; simp⟩
end Go.Proofs.YtjdojogjogenkaaDoor

/- The map of the rules' numbers, as a datum; the rows of the flat grammar by their place. -/
namespace Go.Proofs.YtjdojogjogenkaaDoor
open Go.RowKit
set_option linter.unusedVariables false

/-- Of the first j rules those of operators are in the map. -/
def MapOk (t : Table) (j : Nat) (D : DataW Unit) : Prop := Maps.IsMap D ∧ ∀ (m : Nat) (op : Int), (opsL t)[m]? = some op → baseN t + m < j → D.atKey (.int .i64 op) (.lit (.int .i64 0)) = .lit (.int .i64 ((baseN t + m : Nat) : Int))
theorem MapOk.low {t : Table} {j : Nat} {D : DataW Unit} (h : MapOk t j D) (hj : j < baseN t) : MapOk t (j + 1) D :=
  ⟨h.1, fun m op hm hl => h.2 m op hm (by omega)⟩
theorem lit_int_ne {a b : Int} (h : a ≠ b) : (Lit.int .i64 a) ≠ Lit.int .i64 b := fun e => h (Lit.int.inj e).2
theorem MapOk.put {t : Table} {m : Nat} {D : DataW Unit} {op : Int} (hv : Valid t) (h : MapOk t (baseN t + m) D) (hm : (opsL t)[m]? = some op) : MapOk t (baseN t + m + 1) (D.put (.int .i64 op) (.lit (.int .i64 ((baseN t + m : Nat) : Int)))) := by
  refine ⟨h.1.put _ _, fun m' op' hm' hl => ?_⟩
  by_cases e : op' = op
  · subst e
    have e1 := idx_of_nodup (opsL t) m op' hv.opsN hm
    have e2 := idx_of_nodup (opsL t) m' op' hv.opsN hm'
    rw [Maps.atKey_put_same h.1 (show WideAt.IsKeyLit (.int .i64 op') from trivial)]
    rw [show m' = m by omega]
  · rw [Maps.atKey_put_other (lit_int_ne e)]
    refine h.2 m' op' hm' ?_
    rcases Nat.lt_or_ge m' m with h1 | h1
    · omega
    · have : m' = m := by omega
      subst this
      rw [hm] at hm'
      injection hm' with e'
      exact absurd e'.symm e
theorem flatR_len (t : Table) : (flatRules t).length = baseN t + (opsL t).length := by
  unfold flatRules baseN opsL
  cases brk t
  · simp only [Bool.false_eq_true, if_false, List.nil_append, List.length_cons, levRules_len]; omega
  · simp only [if_true, List.cons_append, List.nil_append, List.length_cons, levRules_len]; omega
theorem MapOk.all {t : Table} {D : DataW Unit} (h : MapOk t (flatRules t).length D) : ∀ op ∈ opsL t, D.atKey (.int .i64 op) (.lit (.int .i64 0)) = .lit (.int .i64 (rulOf t op)) := by
  intro op ho
  have h1 : (opsL t).idxOf op < (opsL t).length := List.idxOf_lt_length_of_mem ho
  have h2 : (opsL t)[(opsL t).idxOf op]? = some op := by rw [List.getElem?_eq_getElem h1, List.getElem_idxOf]
  exact h.2 _ op h2 (by rw [flatR_len]; omega)
/-- A rule of the flat grammar by its place. -/
theorem flat_kind (t : Table) (j : Nat) (q : Rule) (h : (flatRules t)[j]? = some q) : (j < baseN t ∧ (flatLev t)[j]? = some (t.levels.length : Int)) ∨
    ∃ (m i : Nat) (op : Int), j = baseN t + m ∧ (opsL t)[m]? = some op ∧ (flatLev t)[j]? = some (i : Int) ∧ i < t.levels.length ∧ 2 ≤ q.right.length ∧ q.right.length ≤ 3 ∧ q.right[q.right.length - 2]? = some ⟨true, op⟩ := by
  have hop : ∀ m : Nat, ((t.levels.map levRules).flatten)[m]? = some q → (flatLev t)[j]? = (levFrom 0 t.levels)[m]? → j = baseN t + m → ∃ (m i : Nat) (op : Int), j = baseN t + m ∧ (opsL t)[m]? = some op ∧ (flatLev t)[j]? = some (i : Int) ∧ i < t.levels.length ∧ 2 ≤ q.right.length ∧ q.right.length ≤ 3 ∧ q.right[q.right.length - 2]? = some ⟨true, op⟩ := by
    intro m hm hfl hi
    obtain ⟨i, l, op, g1, g2, g3, g4, g5⟩ := lev_getO t.levels 0 m q hm
    refine ⟨m, i, op, hi, g5, by rw [hfl, g1]; simp, (List.getElem?_eq_some_iff.1 g2).1, ?_⟩
    subst g4
    unfold opRule
    dsimp only
    split <;> simp
  unfold flatRules at h
  match j, h, hop with
  | 0, h, _ =>
    left
    exact ⟨by unfold baseN; split <;> omega, rfl⟩
  | j + 1, h, hop =>
    simp only [List.getElem?_cons_succ] at h
    cases hb : brk t
    · rw [hb] at h
      simp only [Bool.false_eq_true, if_false, List.nil_append] at h
      exact .inr (hop j h (by unfold flatLev; rw [hb]; simp) (by unfold baseN; rw [hb]; simp; omega))
    · rw [hb] at h
      simp only [if_true, List.cons_append, List.nil_append] at h
      match j, h, hop with
      | 0, h, _ =>
        left
        exact ⟨by unfold baseN; rw [hb]; simp, by unfold flatLev; rw [hb]; rfl⟩
      | j + 1, h, hop =>
        simp only [List.getElem?_cons_succ] at h
        exact .inr (hop j h (by unfold flatLev; rw [hb]; simp) (by unfold baseN; rw [hb]; simp; omega))
end Go.Proofs.YtjdojogjogenkaaDoor

/- Tables that parlkeep2.Operators makes: they are valid. No program is named here. -/
namespace Go.Proofs.YtjdojogjogenkaaDoor
set_option linter.unusedVariables false

/-- k numbers from a on. -/
def runL : Nat → Int → List Int
  | 0, _ => []
  | k + 1, a => a :: runL k (a + 1)
theorem runL_snoc : ∀ (k : Nat) (a : Int), runL (k + 1) a = runL k a ++ [a + k]
  | 0, a => by simp [runL]
  | k + 1, a => by
    have h := runL_snoc k (a + 1)
    show a :: runL (k + 1) (a + 1) = (a :: runL k (a + 1)) ++ [a + (k + 1 : Nat)]
    rw [h, List.cons_append, show a + 1 + (k : Int) = a + ((k + 1 : Nat) : Int) from by omega]
theorem runL_append : ∀ (k j : Nat) (a : Int), runL (k + j) a = runL k a ++ runL j (a + k)
  | 0, j, a => by simp [runL]
  | k + 1, j, a => by
    have h := runL_append k j (a + 1)
    rw [show k + 1 + j = (k + j) + 1 from by omega]
    show a :: runL (k + j) (a + 1) = (a :: runL k (a + 1)) ++ runL j (a + (k + 1 : Nat))
    rw [h, List.cons_append, show a + 1 + (k : Int) = a + ((k + 1 : Nat) : Int) from by omega]
theorem runL_len : ∀ (k : Nat) (a : Int), (runL k a).length = k
  | 0, _ => rfl
  | k + 1, a => by simp [runL, runL_len k]
theorem precScan_run : ∀ (k : Nat) (a : Int) (seen : List Int), (∀ x ∈ seen, x < a) → 0 ≤ a → a + k ≤ 8 → precScan 8 seen (runL k a) = 0
  | 0, _, _, _, _, _ => rfl
  | k + 1, a, seen, hs, h0, h8 => by
    show precScan 8 seen (a :: runL k (a + 1)) = 0
    rw [precScan, if_neg (by omega), if_neg (fun h => by have := hs a h; omega)]
    refine precScan_run k (a + 1) _ (fun x hx => ?_) (by omega) (by omega)
    rcases List.mem_append.1 hx with hx | hx
    · have := hs x hx; omega
    · simp at hx; omega
/-- What holds of the table after some levels: k operators, from 3 on, each level with some, of a known kind. -/
structure OpsT (t : Table) (i k : Nat) : Prop where
  terms : t.terms = 8
  atom : t.atom = 0
  br : (t.opn = -1 ∧ t.cls = -1) ∨ (t.opn = 1 ∧ t.cls = 2)
  few : t.levels.length ≤ i
  run : (t.levels.map Level.ops).flatten = runL k 3
  k5 : k ≤ 5
  kinds : ∀ l ∈ t.levels, 0 ≤ l.kind ∧ l.kind < 4 ∧ l.ops ≠ []
theorem OpsT.valid {t : Table} {i k : Nat} (h : OpsT t i k) (hi : i ≤ 4) : precCheck t = 0 := by
  have h1 : t.levels.any badLevel = false := by
    rw [List.any_eq_false]
    intro l hl
    obtain ⟨a, b, c⟩ := h.kinds l hl
    simp [badLevel]
    exact ⟨by omega, by omega, c⟩
  unfold precCheck
  rw [if_neg (by rw [h.terms, h.atom]; omega), if_neg (by have := h.few; omega), if_neg (by simp [h1]), h.terms, h.atom]
  unfold allOps
  rw [h.run]
  have hk := h.k5
  rcases h.br with ⟨b1, b2⟩ | ⟨b1, b2⟩
  · rw [if_neg (by unfold brk; rw [b1, b2]; simp), List.nil_append]
    exact precScan_run k 3 [0] (by simp) (by omega) (by omega)
  · rw [if_pos (by unfold brk; rw [b1, b2]; simp), b1, b2]
    have h2 := precScan_run k 3 [0, 1, 2] (by simp) (by omega) (by omega)
    simp [precScan]
    exact h2
theorem OpsT.add {t : Table} {i k j : Nat} {l : Level} (h : OpsT t i k) (hl : l.ops = runL j (3 + (k : Int))) (hj : 1 ≤ j) (hk : k + j ≤ 5) (hkd : 0 ≤ l.kind ∧ l.kind < 4) : OpsT { t with levels := t.levels ++ [l] } (i + 1) (k + j) := by
  refine ⟨h.terms, h.atom, h.br, by have := h.few; simp; omega, ?_, hk, fun x hx => ?_⟩
  · show ((t.levels ++ [l]).map Level.ops).flatten = _
    rw [List.map_append, List.flatten_append, h.run, runL_append]
    simp [hl]
  · rcases List.mem_append.1 hx with hx | hx
    · exact h.kinds x hx
    · simp at hx
      subst hx
      refine ⟨hkd.1, hkd.2, fun e => ?_⟩
      have h1 := runL_len j (3 + (k : Int))
      rw [← hl, e] at h1
      simp at h1
      omega
theorem OpsT.skip {t : Table} {i k : Nat} (h : OpsT t i k) : OpsT t (i + 1) k := ⟨h.terms, h.atom, h.br, by have := h.few; omega, h.run, h.k5, h.kinds⟩
end Go.Proofs.YtjdojogjogenkaaDoor

