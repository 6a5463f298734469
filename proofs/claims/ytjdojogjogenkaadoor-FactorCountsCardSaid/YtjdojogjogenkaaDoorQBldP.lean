/- core.Build's search: what its two maps and its list hold on the way; the nodes that are met. -/
import Derived.Test.YtjdojogjogenkaaDoorQp1
import Derived.Test.YtjdojogjogenkaaDoorQPacks
namespace Go.Proofs.YtjdojogjogenkaaDoor
open Go.RowKit
set_option linter.unusedVariables false
inductive Rel2 {α β : Type} (R : α → β → Prop) : List α → List β → Prop
 | nil : Rel2 R [] []
 | cons {a b l m} (h : R a b) (t : Rel2 R l m) : Rel2 R (a :: l) (b :: m)
section
variable {α β γ : Type} {R R' : α → β → Prop} {Q : β → γ → Prop}
theorem Rel2.length {l : List α} {m : List β} (h : Rel2 R l m) : l.length = m.length := by
 induction h with
 | nil => rfl
 | cons _ _ ih => rw [List.length_cons, List.length_cons, ih]
theorem Rel2.imp {l : List α} {m : List β} (h : Rel2 R l m) (f : ∀ a b, a ∈ l → b ∈ m → R a b → R' a b) : Rel2 R' l m := by
 induction h with
 | nil => exact .nil
 | cons h t ih => exact .cons (f _ _ (by simp) (by simp) h) (ih (fun a b ha hb => f a b (by simp [ha]) (by simp [hb])))
theorem Rel2.snoc {l : List α} {m : List β} (h : Rel2 R l m) {a : α} {b : β} (k : R a b) : Rel2 R (l ++ [a]) (m ++ [b]) := by
 induction h with
 | nil => exact .cons k .nil
 | cons h t ih => exact .cons h ih
theorem Rel2.perm {l l' : List α} (hp : l'.Perm l) : ∀ {m : List β}, Rel2 R l m → ∃ m', m'.Perm m ∧ Rel2 R l' m' := by
 induction hp with
 | nil => intro m h; exact ⟨m, List.Perm.refl _, h⟩
 | cons x _ ih =>
  intro m h
  cases h with
  | cons h t =>
   obtain ⟨m', h1, h2⟩ := ih t
   exact ⟨_ :: m', h1.cons _, .cons h h2⟩
 | swap x y l =>
  intro m h
  cases h with
  | cons h t =>
   cases t with
   | cons h' t => exact ⟨_, List.Perm.swap _ _ _, .cons h' (.cons h t)⟩
 | trans _ _ ih1 ih2 =>
  intro m h
  obtain ⟨m1, h1, h2⟩ := ih2 h
  obtain ⟨m2, h3, h4⟩ := ih1 h2
  exact ⟨m2, h3.trans h1, h4⟩
theorem Rel2.get {l : List α} {m : List β} (h : Rel2 R l m) : ∀ (i : Nat) (a : α), l[i]? = some a → ∃ b, m[i]? = some b ∧ R a b := by
 induction h with
 | nil => intro i a h; simp at h
 | cons h t ih =>
  intro i a hi
  cases i with
  | zero => simp at hi; subst hi; exact ⟨_, rfl, h⟩
  | succ i => exact ih i a (by simpa using hi)
theorem Rel2.mem {l : List α} {m : List β} (h : Rel2 R l m) {a : α} (ha : a ∈ l) : ∃ b ∈ m, R a b := by
 obtain ⟨i, hi⟩ := List.mem_iff_getElem?.1 ha
 obtain ⟨b, h1, h2⟩ := h.get i a hi
 exact ⟨b, List.mem_of_getElem? h1, h2⟩
end
theorem PacksAre.rel {ks : List NKey} : ∀ {al : List FPack} {bl : List (Nat × List NKey)}, Rel2 (PackIs ks) al bl → PacksAre ks al bl := by
 intro al bl h
 induction h with
 | nil => unfold PacksAre; trivial
 | cons h t ih => unfold PacksAre; exact ⟨h, ih⟩
def KidsIn (g : Gram) (ws : List Int) (T : List (List Nat)) (L : List NKey) (k : NKey) : Prop := ∀ p ∈ packsL g ws T k, ∀ x ∈ p.2, x ∈ L
structure BfL (m n : Nat) (g : Gram) (ws : List Int) (T : List (List Nat)) (i : Nat) (L : List NKey) : Prop where
 nodup : L.Nodup
 key : ∀ k ∈ L, KeyIn m n ws T k
 root : (⟨⟨false, g.start⟩, 0, ws.length⟩ : NKey) ∈ L
 le : i ≤ L.length
 done : ∀ k ∈ L.take i, KidsIn g ws T L k
structure BfK (m n : Nat) (ws : List Int) (T : List (List Nat)) (L : List NKey) (ps : List (Nat × List NKey)) (a : Nat) (q : List NKey) (L' : List NKey) : Prop where
 nodup : L'.Nodup
 key : ∀ k ∈ L', KeyIn m n ws T k
 pre : L <+: L'
 packs : ∀ p ∈ ps.take a, ∀ x ∈ p.2, x ∈ L'
 kids : ∀ x ∈ q, x ∈ L'
section
variable {m n : Nat} {g : Gram} {ws : List Int} {T : List (List Nat)} {L L' : List NKey} {ps : List (Nat × List NKey)} {a b i : Nat} {q : List NKey}
theorem BfK.begin (h : BfL m n g ws T i L) (ps : List (Nat × List NKey)) : BfK m n ws T L ps 0 [] L :=
 ⟨h.nodup, h.key, List.prefix_refl _, fun p hp => by simp at hp, fun x hx => by simp at hx⟩
theorem BfK.hit (h : BfK m n ws T L ps a q L') {x : NKey} (hx : x ∈ L') : BfK m n ws T L ps a (q ++ [x]) L' :=
 ⟨h.nodup, h.key, h.pre, h.packs, fun y hy => by
  rcases List.mem_append.1 hy with hy | hy
  ·exact h.kids y hy
  ·simp at hy; subst hy; exact hx⟩
theorem BfK.add (h : BfK m n ws T L ps a q L') {x : NKey} (hx : x ∉ L') (hk : KeyIn m n ws T x) : BfK m n ws T L ps a (q ++ [x]) (L' ++ [x]) :=
 ⟨List.nodup_append.2 ⟨h.nodup, by simp, fun y hy z hz e => by simp at hz; subst hz; subst e; exact hx hy⟩, fun y hy => by
  rcases List.mem_append.1 hy with hy | hy
  ·exact h.key y hy
  ·simp at hy; subst hy; exact hk, h.pre.trans (List.prefix_append _ _), fun p hp y hy => List.mem_append.2 (.inl (h.packs p hp y hy)), fun y hy => by
  rcases List.mem_append.1 hy with hy | hy
  ·exact List.mem_append.2 (.inl (h.kids y hy))
  ·exact List.mem_append.2 (.inr hy)⟩
theorem BfK.pack (h : BfK m n ws T L ps a q L') {p : Nat × List NKey} (hp : ps[a]? = some p) (hq : q = p.2) : BfK m n ws T L ps (a + 1) [] L' :=
 ⟨h.nodup, h.key, h.pre, fun p' hp' x hx => by
  rw [take_snoc hp] at hp'
  rcases List.mem_append.1 hp' with hp' | hp'
  ·exact h.packs p' hp' x hx
  ·simp at hp'; subst hp'; exact h.kids x (hq ▸ hx), fun x hx => by simp at hx⟩
theorem BfK.node (h : BfL m n g ws T i L) {k : NKey} (hk : L[i]? = some k) (h' : BfK m n ws T L (packsL g ws T k) (packsL g ws T k).length [] L') : BfL m n g ws T (i + 1) L' := by
 obtain ⟨E, rfl⟩ := h'.pre
 have hi : i < L.length := (List.getElem?_eq_some_iff.1 hk).1
 refine ⟨h'.nodup, h'.key, List.mem_append.2 (.inl h.root), by rw [List.length_append]; omega, fun k' hk' p hp x hx => ?_⟩
 rw [List.take_append_of_le_length (by omega), take_snoc hk] at hk'
 rcases List.mem_append.1 hk' with hk' | hk'
 ·exact List.mem_append.2 (.inl (h.done k' hk' p hp x hx))
 ·simp at hk'; subst hk'
  exact h'.packs p (by rw [List.take_length]; exact hp) x hx
theorem BfL.begin (hk : KeyIn m n ws T ⟨⟨false, g.start⟩, 0, ws.length⟩) : BfL m n g ws T 0 [⟨⟨false, g.start⟩, 0, ws.length⟩] :=
 ⟨by simp, fun k h => by simp at h; subst h; exact hk, by simp, Nat.zero_le _, fun k h => by simp at h⟩
end
def nilV : Value := .slice none 0 0
structure BfV (g : Gram) (ws : List Int) (T : List (List Nat)) (PM SM LB hi : Nat) (D L M : List NKey) (v : Value) (wr : World) : Prop where
 ls : OwnX wr (fun _ => False) LB 194 v L
 pm : ∃ (Z : Nat → Prop) (X : NKey → Value), KeyM wr PM D.length nilV X ∧ (∀ k ∈ D, Vl wr Z (packsK g ws T k) (X k)) ∧ (∀ b, Z b → b ≠ PM ∧ b ≠ SM ∧ v.ownBlock ≠ some b ∧ b < wr.heap.size)
 sm : KeyM wr SM M.length (.bool false) (fun k => .bool (decide (k ∈ M)))
 ps : PM ≠ SM
 vp : v.ownBlock ≠ some PM
 vs : v.ownBlock ≠ some SM
 vb : ∀ b, v.ownBlock = some b → b = LB ∨ hi ≤ b
 hs : hi ≤ wr.heap.size
section
variable {g : Gram} {ws : List Int} {T : List (List Nat)} {PM SM LB hi : Nat} {D L M : List NKey} {v : Value} {w w' : World}
theorem BfV.below (h : BfV g ws T PM SM LB hi D L M v w) (k : Below w.heap.size w w') : BfV g ws T PM SM LB hi D L M v w' := by
 obtain ⟨Z, X, h1, h2, h3⟩ := h.pm
 exact ⟨h.ls.below k (Nat.le_refl _), ⟨Z, X, h1.below k, fun x hx => (h2 x hx).below k, fun b hb => ⟨(h3 b hb).1, (h3 b hb).2.1, (h3 b hb).2.2.1, Nat.lt_of_lt_of_le (h3 b hb).2.2.2 k.size⟩⟩, h.sm.below k, h.ps, h.vp, h.vs, h.vb, Nat.le_trans h.hs k.size⟩
theorem BfV.seen (h : BfV g ws T PM SM LB hi D L M v w) {k : NKey} (hg : w.grownBy w' (some SM)) (hm : KeyM w' SM (M.length + 1) (.bool false) (fun k' => if k' = k then .bool true else .bool (decide (k' ∈ M)))) : BfV g ws T PM SM LB hi D L (M ++ [k]) v w' := by
 obtain ⟨Z, X, h1, h2, h3⟩ := h.pm
 have kk : Kept (fun b => b = SM) w w' := Kept.of_grown hg (fun b hb => by injection hb with hb; exact hb.symm)
 refine ⟨h.ls.grown hg (fun b hb => by injection hb with hb; subst hb; exact ⟨h.vs, fun h => h⟩), ⟨Z, X, h1.kept kk h.ps, fun x hx => (h2 x hx).kept kk (fun b hb => (h3 b hb).2.1), fun b hb => ⟨(h3 b hb).1, (h3 b hb).2.1, (h3 b hb).2.2.1, Nat.lt_of_lt_of_le (h3 b hb).2.2.2 hg.size⟩⟩, ?_, h.ps, h.vp, h.vs, h.vb, Nat.le_trans h.hs hg.size⟩
 rw [List.length_append]
 refine hm.iff (fun k' _ => ?_)
 by_cases e : k' = k
 ·subst e; simp
 ·simp [e]
theorem BfV.push (h : BfV g ws T PM SM LB hi D L M v w) {v' : Value} {x : NKey} (ho : OwnX w' (fun _ => False) LB 194 v' (L ++ [x])) (hg : w.grownBy w' v.ownBlock) (hat : v'.ownBlock = v.ownBlock ∨ v'.ownBlock = some w.heap.size) : BfV g ws T PM SM LB hi D (L ++ [x]) M v' w' := by
 obtain ⟨Z, X, h1, h2, h3⟩ := h.pm
 have kk : Kept (fun b => v.ownBlock = some b) w w' := Kept.of_grown hg (fun b hb => hb)
 have hne : ∀ b, b < w.heap.size → v.ownBlock ≠ some b → v'.ownBlock ≠ some b := by
  intro b hb h1 h2
  rcases hat with e | e
  ·exact h1 (e ▸ h2)
  ·rw [e] at h2; injection h2 with h2; omega
 refine ⟨ho, ⟨Z, X, h1.kept kk h.vp, fun x hx => (h2 x hx).kept kk (fun b hb => (h3 b hb).2.2.1), fun b hb => ⟨(h3 b hb).1, (h3 b hb).2.1, hne b (h3 b hb).2.2.2 (h3 b hb).2.2.1, Nat.lt_of_lt_of_le (h3 b hb).2.2.2 hg.size⟩⟩, h.sm.kept kk h.vs, h.ps, hne PM h1.lt h.vp, hne SM h.sm.lt h.vs, fun b hb => ?_, Nat.le_trans h.hs hg.size⟩
 rcases hat with e | e
 ·exact h.vb b (e ▸ hb)
 ·rw [e] at hb; injection hb with hb; have := h.hs; exact .inr (by omega)
theorem BfV.put (h : BfV g ws T PM SM LB hi D L M v w) {k : NKey} {u : Value} {Z Z' : Nat → Prop} {X : NKey → Value} (h1 : KeyM w PM D.length nilV X) (h2 : ∀ k ∈ D, Vl w Z (packsK g ws T k) (X k)) (h3 : ∀ b, Z b → b ≠ PM ∧ b ≠ SM ∧ v.ownBlock ≠ some b ∧ b < w.heap.size) (hk : k ∉ D) (hg : w.grownBy w' (some PM)) (hm : KeyM w' PM (D.length + 1) nilV (fun k' => if k' = k then u else X k')) (hu : Vl w' Z' (packsK g ws T k) u)
  (hZ : ∀ b, Z' b → b ≠ PM ∧ b ≠ SM ∧ v.ownBlock ≠ some b ∧ b < w.heap.size) : BfV g ws T PM SM LB hi (D ++ [k]) L M v w' := by
 have kk : Kept (fun b => b = PM) w w' := Kept.of_grown hg (fun b hb => by injection hb with hb; exact hb.symm)
 refine ⟨h.ls.grown hg (fun b hb => by injection hb with hb; subst hb; exact ⟨h.vp, fun h => h⟩), ⟨fun b => Z b ∨ Z' b, fun k' => if k' = k then u else X k', by rw [List.length_append]; exact hm, fun x hx => ?_, fun b hb => ?_⟩, h.sm.kept kk (fun e => h.ps e.symm), h.ps, h.vp, h.vs, h.vb, Nat.le_trans h.hs hg.size⟩
 ·dsimp only
  by_cases e : x = k
  ·subst e
   rw [if_pos rfl]
   exact hu.mono (fun b hb => .inr hb)
  ·rw [if_neg e]
   have hxD : x ∈ D := by
    rcases List.mem_append.1 hx with hx | hx
    ·exact hx
    ·simp at hx; exact absurd hx e
   exact ((h2 x hxD).kept kk (fun b hb => (h3 b hb).1)).mono (fun b hb => .inl hb)
 ·rcases hb with hb | hb
  ·exact ⟨(h3 b hb).1, (h3 b hb).2.1, (h3 b hb).2.2.1, Nat.lt_of_lt_of_le (h3 b hb).2.2.2 hg.size⟩
  ·exact ⟨(hZ b hb).1, (hZ b hb).2.1, (hZ b hb).2.2.1, Nat.lt_of_lt_of_le (hZ b hb).2.2.2 hg.size⟩
theorem notin_take {k : NKey} {i : Nat} (h : L.Nodup) (hk : L[i]? = some k) : k ∉ L.take i := by
 intro hm
 obtain ⟨j, hj⟩ := List.mem_iff_getElem?.1 hm
 have hji : j < i := by have := (List.getElem?_eq_some_iff.1 hj).1; rw [List.length_take] at this; omega
 rw [List.getElem?_take_of_lt hji] at hj
 obtain ⟨h1, e1⟩ := List.getElem?_eq_some_iff.1 hj
 obtain ⟨h2, e2⟩ := List.getElem?_eq_some_iff.1 hk
 have := (List.nodup_iff_pairwise_ne.1 h)
 exact (List.pairwise_iff_getElem.1 this) j i h1 h2 hji (e1.trans e2.symm)
theorem BfV.at_ (h : BfV g ws T PM SM LB hi D L M v w) {i : Nat} {k : NKey} (hk : L[i]? = some k) :
  ∃ b c, v = .slice (some ⟨b, 0, none⟩) L.length c ∧ L.length ≤ c ∧ c ≤ 9223372036854775807 ∧ b < w.heap.size ∧ KeyOk k ∧ w.cell? ⟨b, i * 4, none⟩ = some (.bool k.sym.term) ∧ w.cell? ⟨b, i * 4 + 1, none⟩ = some (.int .i64 k.sym.n) ∧ w.cell? ⟨b, i * 4 + 2, none⟩ = some (.int .i64 k.fr) ∧ w.cell? ⟨b, i * 4 + 3, none⟩ = some (.int .i64 k.to) := by
 have ho := h.ls.own (S := fun _ => False) (fun b hb => hb.elim)
 obtain ⟨b, c, cs, hv, _, hb, ⟨rfl, hok⟩, hat⟩ := ho.at_ hk
 obtain ⟨A, c', e, h1, h2, _⟩ := ho.form
 rw [hv] at e
 injection e with e1 e2 e3
 subst e3
 exact ⟨b, c, hv, h1, h2, hb, hok, hat.c0, hat.c1, hat 2 _ rfl, hat 3 _ rfl⟩
end
section
variable {P : Program} (w : World) {T : Nat → Prop} {base : Nat} {α : Type} [Dat α]
theorem wpList_ox1 {ops : Array Oper} {rest : List Oper} {o : Oper} {a : Act} {Q : Exit → Act → World → Prop} (hgd : o.guard = none) (s xo : Operand) {t e : TypeId} {bytes : Nat} (hT : ElemT P α t e bytes)
  (ho : o.op = .call { callee := .builtin .append, args := #[s, xo], argTypes := #[t, t] })
  {v : Value} {xs : List α} (hs : a.eval s = v) (hown : OwnX w T base e v xs) (x : α) (cs : List Value) {g c : Nat} (hx : a.eval xo = .slice (some ⟨g, 0, none⟩) 1 c)
  (hat : At w g 0 cs) (hrd : Dat.rd w T x cs) (hlen : (xs.length + 1) * bytes ≤ 140737488355328) (hmax : xs.length + 1 ≤ 9223372036854775807) (hbase : base ≤ w.heap.size)
  (h : ∀ v' w', OwnX w' T base e v' (xs ++ [x]) → w.grownBy w' v.ownBlock → (v'.ownBlock = v.ownBlock ∨ v'.ownBlock = some w.heap.size) → wpList P ops Q rest (a.put o.dst v') w') : wpList P ops Q (o :: rest) a w :=
 wpList_plain hgd fun _ hK => by
  obtain ⟨v', w', hrun, h2, h3, h4⟩ := run_ownX1 (ty := o.type) (c := c) hT hown hat hrd hlen hmax hbase
  unfold Oper.wp execOp
  simp only [ho, resolve, invoke, builtin, Sem.run_bind, Sem.run_pure, Result.andThen_ok, List.map_toArray, List.map_cons, List.map_nil, hs, hx, hrun]
  exact hK _ _ (h v' w' h2 h3 h4)
end
end Go.Proofs.YtjdojogjogenkaaDoor
