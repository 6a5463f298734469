/- Plain law: a flat tree that respects the levels is what the climber comes to at its word. No program is named here. -/
import Derived.Test.YtnphbbhnfkjlcaaQp1
import Derived.Test.YtnphbbhnfkjlcaaQYield
namespace Go.Proofs.Ytnphbbhnfkjlcaa
open Go.RowKit
set_option linter.unusedVariables false

def opsL (t : Table) : List Int := (t.levels.map Level.ops).flatten
def baseN (t : Table) : Nat := if brk t then 2 else 1
/-- The number of an operator's rule. -/
def rulOf (t : Table) (op : Int) : Int := ((baseN t + (opsL t).idxOf op : Nat) : Int)
theorem idx_of_nodup : ∀ (l : List Int) (m : Nat) (x : Int), l.Nodup → l[m]? = some x → l.idxOf x = m
  | [], m, x, _, h => by simp at h
  | a :: l, 0, x, _, h => by simp at h; subst h; simp [List.idxOf_cons]
  | a :: l, m + 1, x, hn, h => by
    have hx : l[m]? = some x := by simpa using h
    have hne : a ≠ x := fun e => (List.nodup_cons.1 hn).1 (e ▸ List.mem_of_getElem? hx)
    rw [List.idxOf_cons, show (a == x) = false by simpa using hne]
    show List.idxOf x l + 1 = m + 1
    rw [idx_of_nodup l m x (List.nodup_cons.1 hn).2 hx]
theorem lev_getO : ∀ (ls : List Level) (k i : Nat) (q : Rule), ((ls.map levRules).flatten)[i]? = some q → ∃ (j : Nat) (l : Level) (op : Int), (levFrom k ls)[i]? = some ((k + j : Nat) : Int) ∧ ls[j]? = some l ∧ op ∈ l.ops ∧ q = opRule l.kind op ∧ ((ls.map Level.ops).flatten)[i]? = some op
  | [], _, i, q, h => by simp at h
  | l :: ls, k, i, q, h => by
    simp only [List.map_cons, List.flatten_cons] at h ⊢
    unfold levFrom
    rcases Nat.lt_or_ge i l.ops.length with hlt | hge
    · rw [List.getElem?_append_left (by simpa [levRules] using hlt)] at h
      rw [List.getElem?_append_left (by simpa using hlt), List.getElem?_append_left hlt]
      obtain ⟨o, ho⟩ := get_some hlt
      simp only [levRules, List.getElem?_map, ho, Option.map_some, Option.some.injEq] at h ⊢
      exact ⟨0, l, o, rfl, rfl, List.mem_of_getElem? ho, h.symm, rfl⟩
    · rw [List.getElem?_append_right (by simpa [levRules] using hge)] at h
      rw [List.getElem?_append_right (by simpa using hge), List.getElem?_append_right hge]
      simp only [levRules, List.length_map] at h ⊢
      obtain ⟨j, a, op, h1, h2, h3, h4, h5⟩ := lev_getO ls (k + 1) _ q h
      exact ⟨j + 1, a, op, by rw [h1]; congr 2; omega, by simpa using h2, h3, h4, h5⟩
/-- The kids of a node of the flat grammar, with the rule's number and its level. -/
inductive KidsC (t : Table) (g : Gram) (ks : List Tree) (r : Int) (v : Nat) : Prop where
  | atom (h : v = t.levels.length) (hr : r = 0) (e : ks = [leafT t.atom])
  | brk (h : v = t.levels.length) (hr : r = 1) (hb : brk t = true) (y : Tree) (hy : vt g y ⟨false, 0⟩) (e : ks = [leafT t.opn, y, leafT t.cls])
  | pre (l : Level) (op : Int) (hl : t.levels[v]? = some l) (ho : op ∈ l.ops) (h3 : l.kind = 3) (hr : r = rulOf t op) (y : Tree) (hy : vt g y ⟨false, 0⟩) (e : ks = [leafT op, y])
  | inf (l : Level) (op : Int) (hl : t.levels[v]? = some l) (ho : op ∈ l.ops) (h3 : l.kind ≠ 3) (hr : r = rulOf t op) (x y : Tree) (hx : vt g x ⟨false, 0⟩) (hy : vt g y ⟨false, 0⟩) (e : ks = [x, leafT op, y])
theorem Valid.opsN {t : Table} (hv : Valid t) : (opsL t).Nodup := by
  have h1 := (List.nodup_cons.1 hv.nodup).2
  unfold allOps at h1
  exact (List.nodup_append.1 h1).2.1
theorem flat_nodeC {t : Table} (hv : Valid t) {g : Gram} (hg : g.rules = flatRules t) {r x a : Int} {ks : List Tree} (h : vt g ⟨r, x, ks⟩ ⟨false, a⟩) : x = 0 ∧ 0 ≤ r ∧ ∃ v : Nat, levE t r = (v : Int) ∧ v ≤ t.levels.length ∧ KidsC t g ks r v := by
  unfold vt at h
  simp only [Bool.false_eq_true, if_false] at h
  obtain ⟨h1, h2, q, h3, h4, h5⟩ := h
  refine ⟨h1, h2, ?_⟩
  rw [hg] at h3
  obtain ⟨i, rfl⟩ : ∃ i : Nat, r = (i : Int) := ⟨r.toNat, by omega⟩
  simp only [Int.toNat_natCast] at h3
  have hop : ∀ m : Nat, ((t.levels.map levRules).flatten)[m]? = some q → (flatLev t)[i]? = (levFrom 0 t.levels)[m]? → i = baseN t + m → ∃ v : Nat, levE t (i : Int) = (v : Int) ∧ v ≤ t.levels.length ∧ KidsC t g ks (i : Int) v := by
    intro m hm hfl hi
    obtain ⟨j, l, op, g1, g2, g3, g4, g5⟩ := lev_getO t.levels 0 m q hm
    have hj := (List.getElem?_eq_some_iff.1 g2).1
    refine ⟨j, levE_of (by rw [hfl, g1]; simp) (by simp), by omega, ?_⟩
    have hr : (i : Int) = rulOf t op := by
      unfold rulOf
      rw [idx_of_nodup (opsL t) m op hv.opsN g5, hi]
    subst g4
    unfold opRule at h5
    by_cases h3 : l.kind = 3
    · simp only [if_pos h3] at h5
      obtain ⟨x, l1, rfl, hx, hk⟩ := vts_cons h5
      obtain ⟨y, rfl, hy⟩ := vts_one hk
      exact .pre l op g2 g3 h3 hr y hy (by rw [vt_leaf hx]; rfl)
    · simp only [if_neg h3] at h5
      obtain ⟨x, l1, rfl, hx, hk⟩ := vts_cons h5
      obtain ⟨y, l2, rfl, hy, hk⟩ := vts_cons hk
      obtain ⟨z, rfl, hz⟩ := vts_one hk
      exact .inf l op g2 g3 h3 hr x z hx hz (by rw [vt_leaf hy]; rfl)
  unfold flatRules at h3
  match i, h3, hop with
  | 0, h3, _ =>
    simp only [List.getElem?_cons_zero, Option.some.injEq] at h3
    subst h3
    obtain ⟨y, rfl, hy⟩ := vts_one h5
    exact ⟨t.levels.length, levE_of (i := 0) rfl rfl, Nat.le_refl _, .atom rfl rfl (by rw [vt_leaf hy]; rfl)⟩
  | i + 1, h3, hop =>
    simp only [List.getElem?_cons_succ] at h3
    cases hb : brk t
    · rw [hb] at h3
      simp only [Bool.false_eq_true, if_false, List.nil_append] at h3
      exact hop i h3 (by unfold flatLev; rw [hb]; simp) (by unfold baseN; rw [hb]; simp; omega)
    · rw [hb] at h3
      simp only [if_true, List.cons_append, List.nil_append] at h3
      match i, h3, hop with
      | 0, h3, _ =>
        simp only [List.getElem?_cons_zero, Option.some.injEq] at h3
        subst h3
        obtain ⟨x, l1, rfl, hx, hk⟩ := vts_cons h5
        obtain ⟨y, l2, rfl, hy, hk⟩ := vts_cons hk
        obtain ⟨z, rfl, hz⟩ := vts_one hk
        exact ⟨t.levels.length, levE_of (i := 1) (by unfold flatLev; rw [hb]; rfl) rfl, Nat.le_refl _, .brk rfl rfl hb y hy (by rw [vt_leaf hx, vt_leaf hz]; rfl)⟩
      | i + 1, h3, hop =>
        simp only [List.getElem?_cons_succ] at h3
        exact hop i h3 (by unfold flatLev; rw [hb]; simp) (by unfold baseN; rw [hb]; simp; omega)

/-- What the climber comes to in some number of nested calls. -/
def ParE (t : Table) (w : List Int) (k p : Nat) (r : Res) : Prop := ∃ n, Par t w (rulOf t) n k p r
theorem Opd.fin {t : Table} {w : List Int} {p : Nat} {r : Res} (h : Opd t w (ParE t w) p r) : ∃ n, Opd t w (Par t w (rulOf t) n) p r := by
  cases h with
  | atom a b => exact ⟨0, .atom a b⟩
  | none a b => exact ⟨0, .none a b⟩
  | brk a b c d e f => obtain ⟨n, e⟩ := e; exact ⟨n, .brk a b c d e f⟩
  | brkNo a b c d e f => obtain ⟨n, e⟩ := e; exact ⟨n, .brkNo a b c d e f⟩
  | brkRej a b c d => obtain ⟨n, d⟩ := d; exact ⟨n, .brkRej a b c d⟩
theorem Lp.fin {t : Table} {w : List Int} {l : Level} {k : Nat} {x : Tree} {q : Nat} {r : Res} (h : Lp w (rulOf t) (ParE t w) l k x q r) : ∃ n, Lp w (rulOf t) (Par t w (rulOf t) n) l k x q r := by
  induction h with
  | stop x q a => exact ⟨0, .stop x q a⟩
  | rej x q q' op a b c => obtain ⟨n, c⟩ := c; exact ⟨n, .rej x q q' op a b c⟩
  | one x y q q' op a b c d => obtain ⟨n, d⟩ := d; exact ⟨n, .one x y q q' op a b c d⟩
  | more x y q q' op r a b c d e ih =>
    obtain ⟨n, d⟩ := d
    obtain ⟨m, ih⟩ := ih
    exact ⟨max n m, .more x y q q' op r a b c (Par.le (Nat.le_max_left n m) d) (ih.mono fun k p r h => Par.le (Nat.le_max_right n m) h)⟩
theorem ParE.step {t : Table} {w : List Int} {k p : Nat} {r : Res} (h : ParS t w (rulOf t) (ParE t w) k p r) : ParE t w k p r := by
  cases h with
  | opd a r b => obtain ⟨n, b⟩ := b.fin; exact ⟨n + 1, .opd a _ b⟩
  | skip l a b c r d => obtain ⟨n, d⟩ := d; exact ⟨n + 1, .skip l a b c _ d⟩
  | pre l a b op c d y q e => obtain ⟨n, e⟩ := e; exact ⟨n + 1, .pre l a b op c d y q e⟩
  | preRej l a b op c d q e => obtain ⟨n, e⟩ := e; exact ⟨n + 1, .preRej l a b op c d q e⟩
  | infRej l a b q c => obtain ⟨n, c⟩ := c; exact ⟨n + 1, .infRej l a b q c⟩
  | inf l a b x q c r d =>
    obtain ⟨n, c⟩ := c
    obtain ⟨m, d⟩ := d.fin
    exact ⟨max n m + 1, .inf l a b x q (Par.le (Nat.le_max_left n m) c) _ (d.mono fun k p r h => Par.le (Nat.le_max_right n m) h)⟩

/-- What follows begins with no operator of the level k or behind it. -/
def NF (t : Table) (k : Nat) (post : List Int) : Prop := ∀ o, post.head? = some o → ∀ (j : Nat) (l : Level), k ≤ j → t.levels[j]? = some l → o ∉ l.ops
theorem NF.le {t : Table} {k k' : Nat} {post : List Int} (h : NF t k post) (hk : k ≤ k') : NF t k' post := fun o ho j l hj hl => h o ho j l (by omega) hl
theorem drop_head {w a b : List Int} {p : Nat} (h : w.drop p = a ++ b) : w[p + a.length]? = b.head? := by
  have h1 : (w.drop p)[a.length]? = (a ++ b)[a.length]? := by rw [h]
  rw [List.getElem?_drop] at h1
  rw [h1, List.getElem?_append_right (Nat.le_refl _), Nat.sub_self]
  cases b <;> simp
theorem drop_more {w a b : List Int} {p : Nat} (h : w.drop p = a ++ b) : w.drop (p + a.length) = b := by
  rw [← List.drop_drop, h, List.drop_left]
theorem descend {t : Table} {w : List Int} {lev p q : Nat} {x : Tree} (hL : lev ≤ t.levels.length) (h : ParE t w lev p (.ok x q)) (hF : ∀ o, w[p]? = some o → ∀ (j : Nat) (l : Level), j < lev → t.levels[j]? = some l → o ∉ l.ops) : ∀ (d k : Nat), k + d = lev → (∀ o, w[q]? = some o → ∀ (j : Nat) (l : Level), k ≤ j → t.levels[j]? = some l → o ∉ l.ops) → ParE t w k p (.ok x q)
  | 0, k, hk, _ => by have : k = lev := by omega
                      subst this; exact h
  | d + 1, k, hk, hN => by
    have ih := descend hL h hF d (k + 1) (by omega) (fun o ho j l hj hl => hN o ho j l (by omega) hl)
    obtain ⟨l, hl⟩ := get_some (show k < t.levels.length by omega)
    by_cases h3 : l.kind = 3
    · exact ParE.step (.skip l hl h3 (fun o ho => hF o ho k l (by omega) hl) _ ih)
    · exact ParE.step (.inf l hl h3 x q ih _ (.stop x q (fun o ho => hN o ho k l (Nat.le_refl _) hl)))

/-- The marks and the operators are apart. -/
structure Apart (t : Table) : Prop where
  atom : ∀ (j : Nat) (l : Level), t.levels[j]? = some l → t.atom ∉ l.ops
  opn : brk t = true → ∀ (j : Nat) (l : Level), t.levels[j]? = some l → t.opn ∉ l.ops
  cls : brk t = true → ∀ (j : Nat) (l : Level), t.levels[j]? = some l → t.cls ∉ l.ops
  ao : brk t = true → t.atom ≠ t.opn
  oo : ∀ (i j : Nat) (a b : Level) (x : Int), t.levels[i]? = some a → t.levels[j]? = some b → x ∈ a.ops → x ∈ b.ops → i = j
theorem Valid.apart {t : Table} (hv : Valid t) : Apart t := by
  have h1 := List.nodup_cons.1 hv.nodup
  have hm : ∀ (j : Nat) (l : Level) (x : Int), t.levels[j]? = some l → x ∈ l.ops → x ∈ (t.levels.map Level.ops).flatten := fun j l x hl hx => List.mem_flatten.2 ⟨l.ops, List.mem_map.2 ⟨l, List.mem_of_getElem? hl, rfl⟩, hx⟩
  refine ⟨fun j l hl h => h1.1 ?_, fun hb j l hl h => ?_, fun hb j l hl h => ?_, fun hb e => h1.1 ?_, fun i j a b x ha hb hxa hxb => ops_apart t.levels i j a b x hv.opsN ha hb hxa hxb⟩
  · unfold allOps; exact List.mem_append.2 (.inr (hm j l _ hl h))
  · have h2 := h1.2
    unfold allOps at h2
    rw [if_pos hb] at h2
    exact (List.nodup_append.1 h2).2.2 t.opn (by simp) t.opn (hm j l _ hl h) rfl
  · have h2 := h1.2
    unfold allOps at h2
    rw [if_pos hb] at h2
    exact (List.nodup_append.1 h2).2.2 t.cls (by simp) t.cls (hm j l _ hl h) rfl
  · rw [e]; unfold allOps; rw [if_pos hb]; simp

theorem leaf_yield (a : Int) : yieldT (leafT a) = [a] := by simp [leafT, yieldT]
/-- What holds of a flat tree that respects the levels. -/
structure ClOk (t : Table) (w : List Int) (x : Tree) (lev : Nat) : Prop where
  levIs : levE t x.rule = (lev : Int)
  le : lev ≤ t.levels.length
  first : ∃ o rest, yieldT x = o :: rest ∧ ∀ (j : Nat) (l : Level), j < lev → t.levels[j]? = some l → o ∉ l.ops
  par : ∀ (p : Nat) (post : List Int), w.drop p = yieldT x ++ post → ∀ k, k ≤ lev → NF t k post → ParE t w k p (.ok x (p + (yieldT x).length))
  left : ∀ (p : Nat) (post : List Int), w.drop p = yieldT x ++ post → ∀ (l : Level), t.levels[lev]? = some l → l.kind = 1 → NF t (lev + 1) post → ∃ a0 q0, ParE t w (lev + 1) p (.ok a0 q0) ∧ ∀ r, Lp w (rulOf t) (ParE t w) l lev x (p + (yieldT x).length) r → Lp w (rulOf t) (ParE t w) l lev a0 q0 r
theorem first_at {w : List Int} {p : Nat} {x : Tree} {post : List Int} {o : Int} {rest : List Int} (h : w.drop p = yieldT x ++ post) (hy : yieldT x = o :: rest) : w[p]? = some o := by
  have := drop_head (a := []) (b := o :: (rest ++ post)) (show w.drop p = [] ++ (o :: (rest ++ post)) by rw [h, hy]; rfl)
  simpa using this
theorem ClOk.of_lev {t : Table} {w : List Int} {x : Tree} {lev : Nat} (h1 : levE t x.rule = (lev : Int)) (h2 : lev ≤ t.levels.length) (h3 : ∃ o rest, yieldT x = o :: rest ∧ ∀ (j : Nat) (l : Level), j < lev → t.levels[j]? = some l → o ∉ l.ops)
    (h4 : ∀ (p : Nat) (post : List Int), w.drop p = yieldT x ++ post → NF t lev post → ParE t w lev p (.ok x (p + (yieldT x).length)))
    (h5 : ∀ (p : Nat) (post : List Int), w.drop p = yieldT x ++ post → ∀ (l : Level), t.levels[lev]? = some l → l.kind = 1 → NF t (lev + 1) post → ∃ a0 q0, ParE t w (lev + 1) p (.ok a0 q0) ∧ ∀ r, Lp w (rulOf t) (ParE t w) l lev x (p + (yieldT x).length) r → Lp w (rulOf t) (ParE t w) l lev a0 q0 r) : ClOk t w x lev := by
  refine ⟨h1, h2, h3, fun p post hp k hk hn => ?_, h5⟩
  obtain ⟨o, rest, ho, hno⟩ := h3
  refine descend h2 (h4 p post hp (hn.le hk)) (fun o' ho' j l hj hl => ?_) (lev - k) k (by omega) (fun o' ho' j l hj hl => ?_)
  · rw [first_at hp ho] at ho'
    injection ho' with e
    exact e ▸ hno j l hj hl
  · rw [drop_head hp] at ho'
    exact hn o' ho' j l hj hl

theorem allow_par {t : Table} (hv : Valid t) {f : Gram} (hf : f.rules = flatRules t) (w : List Int) : ∀ (x : Tree), vt f x ⟨false, 0⟩ → allowE t x = true → ∃ lev, ClOk t w x lev := by
  refine Tree.ind ?_
  intro r z ks ih h hall
  obtain ⟨rfl, hr, v, hlev, hvL, hk⟩ := flat_nodeC hv hf h
  have ap := hv.apart
  have hy : yieldT ⟨r, 0, ks⟩ = yields ks := by rw [yieldT, if_neg (by omega)]
  rw [allowE, if_neg (by omega)] at hall
  simp only [Bool.and_eq_true] at hall
  obtain ⟨hks, hnode⟩ := hall
  refine ⟨v, ?_⟩
  cases hk with
  | atom hL hr0 e =>
    subst hr0; subst e; subst hL
    rw [show yields [leafT t.atom] = [t.atom] by simp [yields, leaf_yield]] at hy
    refine ClOk.of_lev hlev hvL ⟨t.atom, [], hy, fun j l _ hl => ap.atom j l hl⟩ (fun p post hp hn => ?_) (fun p post hp l hl => by simp at hl)
    have hw := first_at hp hy
    rw [hy]
    refine ParE.step (.opd rfl _ (.atom ?_ hw))
    rintro ⟨hb, ho⟩
    rw [hw] at ho
    exact ap.ao hb (by injection ho)
  | brk hL hr1 hb y hyv e =>
    subst hr1; subst e; subst hL
    rw [show yields [leafT t.opn, y, leafT t.cls] = t.opn :: (yieldT y ++ [t.cls]) by simp [yields, leaf_yield]] at hy
    simp [allowEs] at hks
    obtain ⟨ly, oy⟩ := ih y (by simp) hyv hks.2.1
    refine ClOk.of_lev hlev hvL ⟨t.opn, _, hy, fun j l _ hl => ap.opn hb j l hl⟩ (fun p post hp hn => ?_) (fun p post hp l hl => by simp at hl)
    have hw := first_at hp hy
    have hp1 : w.drop (p + 1) = yieldT y ++ (t.cls :: post) := by
      have := drop_more (w := w) (p := p) (a := [t.opn]) (b := yieldT y ++ (t.cls :: post)) (by rw [hp, hy]; simp)
      simpa using this
    have h1 := oy.par (p + 1) _ hp1 0 (Nat.zero_le _) (fun o ho j l _ hl => by simp at ho; subst ho; exact ap.cls hb j l hl)
    have hc := drop_head hp1
    rw [hy, show p + (t.opn :: (yieldT y ++ [t.cls])).length = p + 1 + (yieldT y).length + 1 by simp; omega]
    exact ParE.step (.opd rfl _ (.brk hb hw y _ h1 (by rw [hc]; rfl)))
  | pre l op hl ho h3 hrr y hyv e =>
    subst e
    rw [show yields [leafT op, y] = op :: yieldT y by simp [yields, leaf_yield]] at hy
    simp [allowEs] at hks
    obtain ⟨ly, oy⟩ := ih y (by simp) hyv hks.2
    have hly : v ≤ ly := by
      unfold nodeE at hnode
      rw [hlev] at hnode
      simp only [Int.toNat_natCast, hl, h3] at hnode
      have e1 : lastT [leafT op, y] = y := rfl
      rw [e1, oy.levIs] at hnode
      simp at hnode
      omega
    refine ClOk.of_lev hlev hvL ⟨op, _, hy, fun j l' hj hl' h => by have := ap.oo j v l' l op hl' hl h ho; omega⟩ (fun p post hp hn => ?_) (fun p post hp l' hl' h1 => by rw [hl] at hl'; injection hl' with e; subst e; omega)
    have hw := first_at hp hy
    have hp1 : w.drop (p + 1) = yieldT y ++ post := by
      have := drop_more (w := w) (p := p) (a := [op]) (b := yieldT y ++ post) (by rw [hp, hy]; simp)
      simpa using this
    have h1 := oy.par (p + 1) _ hp1 v hly hn
    rw [hy, show p + (op :: yieldT y).length = p + 1 + (yieldT y).length by simp; omega, hrr]
    exact ParE.step (.pre l hl h3 op hw ho y _ h1)
  | inf l op hl ho h3 hrr a y hav hyv e =>
    subst e
    rw [show yields [a, leafT op, y] = yieldT a ++ (op :: yieldT y) by simp [yields, leaf_yield]] at hy
    simp [allowEs] at hks
    obtain ⟨la, oa⟩ := ih a (by simp) hav hks.1
    obtain ⟨ly, oy⟩ := ih y (by simp) hyv hks.2.2
    have hlv : (if l.kind = 2 then v else v + 1) ≤ ly ∧ (if l.kind = 1 then v else v + 1) ≤ la := by
      unfold nodeE at hnode
      rw [hlev] at hnode
      simp only [Int.toNat_natCast, hl] at hnode
      have e1 : lastT [a, leafT op, y] = y := rfl
      have e2 : headT [a, leafT op, y] = a := rfl
      rw [e1, e2, oy.levIs, oa.levIs] at hnode
      simp only [Bool.and_eq_true, Bool.or_eq_true, decide_eq_true_eq] at hnode
      obtain ⟨n1, n2⟩ := hnode
      rcases n2 with n2 | n2
      · exact absurd n2 h3
      · constructor
        · split at n1 <;> split <;> omega
        · split at n2 <;> split <;> omega
    have hva : v ≤ la := by have := hlv.2; split at this <;> omega
    have hopn : ∀ post', NF t (v + 1) (op :: post') := fun post' o ho' j l' hj hl' h => by
      simp at ho'; subst ho'
      have := ap.oo j v l' l op hl' hl h ho; omega
    obtain ⟨o1, rest1, hf1, hf2⟩ := oa.first
    have hsplit : ∀ (p : Nat) (post : List Int), w.drop p = yieldT ⟨r, 0, [a, leafT op, y]⟩ ++ post → w.drop p = yieldT a ++ (op :: (yieldT y ++ post)) ∧ w[p + (yieldT a).length]? = some op ∧ w.drop (p + (yieldT a).length + 1) = yieldT y ++ post := by
      intro p post hp
      have h1 : w.drop p = yieldT a ++ (op :: (yieldT y ++ post)) := by rw [hp, hy]; simp
      have h2 := drop_more h1
      refine ⟨h1, by rw [drop_head h1]; rfl, ?_⟩
      have := drop_more (w := w) (p := p + (yieldT a).length) (a := [op]) (b := yieldT y ++ post) (by rw [h2]; simp)
      simpa using this
    have hlen : ∀ p : Nat, p + (yieldT ⟨r, 0, [a, leafT op, y]⟩).length = p + (yieldT a).length + 1 + (yieldT y).length := fun p => by rw [hy]; simp; omega
    have hleft : ∀ (p : Nat) (post : List Int), w.drop p = yieldT ⟨r, 0, [a, leafT op, y]⟩ ++ post → l.kind = 1 → NF t (v + 1) post → ∃ a0 q0, ParE t w (v + 1) p (.ok a0 q0) ∧ ∀ r', Lp w (rulOf t) (ParE t w) l v ⟨r, 0, [a, leafT op, y]⟩ (p + (yieldT ⟨r, 0, [a, leafT op, y]⟩).length) r' → Lp w (rulOf t) (ParE t w) l v a0 q0 r' := by
      intro p post hp h1 hn
      obtain ⟨s1, s2, s3⟩ := hsplit p post hp
      have hy1 : ParE t w (if l.kind = 2 then v else v + 1) (p + (yieldT a).length + 1) (.ok y (p + (yieldT a).length + 1 + (yieldT y).length)) :=
        oy.par _ post s3 _ hlv.1 (by rw [if_neg (by omega)]; exact hn)
      have hmore : ∀ r', Lp w (rulOf t) (ParE t w) l v ⟨r, 0, [a, leafT op, y]⟩ (p + (yieldT ⟨r, 0, [a, leafT op, y]⟩).length) r' → Lp w (rulOf t) (ParE t w) l v a (p + (yieldT a).length) r' := fun r' hr' => by
        rw [hlen, hrr] at hr'
        exact .more a y _ _ op r' s2 ho h1 hy1 hr'
      rcases Nat.lt_or_ge v la with hlt | hge
      · exact ⟨a, _, oa.par p _ s1 (v + 1) hlt (hopn _), hmore⟩
      · have e : la = v := by omega
        subst e
        obtain ⟨a0, q0, g1, g2⟩ := oa.left p _ s1 l hl h1 (hopn _)
        exact ⟨a0, q0, g1, fun r' hr' => g2 r' (hmore r' hr')⟩
    refine ClOk.of_lev hlev hvL ⟨o1, rest1 ++ (op :: yieldT y), by rw [hy, hf1]; rfl, fun j l' hj hl' => hf2 j l' (by omega) hl'⟩ (fun p post hp hn => ?_) (fun p post hp l' hl' h1 hn => ?_)
    · by_cases h1 : l.kind = 1
      · obtain ⟨a0, q0, g1, g2⟩ := hleft p post hp h1 (hn.le (by omega))
        refine ParE.step (.inf l hl h3 a0 q0 g1 _ (g2 _ (.stop _ _ fun o ho' => ?_)))
        rw [drop_head hp] at ho'
        exact hn o ho' v l (Nat.le_refl _) hl
      · obtain ⟨s1, s2, s3⟩ := hsplit p post hp
        have hy1 : ParE t w (if l.kind = 2 then v else v + 1) (p + (yieldT a).length + 1) (.ok y (p + (yieldT a).length + 1 + (yieldT y).length)) :=
          oy.par _ post s3 _ hlv.1 (hn.le (by split <;> omega))
        have ha1 := oa.par p _ s1 (v + 1) (by have := hlv.2; rw [if_neg h1] at this; exact this) (hopn _)
        rw [hlen, hrr]
        exact ParE.step (.inf l hl h3 a _ ha1 _ (.one a y _ _ op s2 ho h1 hy1))
    · rw [hl] at hl'; injection hl' with e; subst e
      exact hleft p post hp h1 hn
/-- The whole word. -/
theorem allow_climb {t : Table} (hv : Valid t) {f : Gram} (hf : f.rules = flatRules t) {x : Tree} (h : vt f x ⟨false, 0⟩) (ha : allowE t x = true) : ParE t (yieldT x) 0 0 (.ok x (yieldT x).length) := by
  obtain ⟨lev, o⟩ := allow_par hv hf (yieldT x) x h ha
  have := o.par 0 [] (by simp) 0 (Nat.zero_le _) (fun o ho => by simp at ho)
  simpa using this
end Go.Proofs.Ytnphbbhnfkjlcaa
