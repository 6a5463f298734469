/- Plain laws: a tree that gram.Tree lets by is valid; the flat tree of a layered one; whether a flat tree respects the levels, read off the rule or off the operator. No program is named here. -/
import Derived.Test.YtlbhaegdcpacpaaPrecP
import Derived.Test.YtlbhaegdcpacpaaTreeE
namespace Go.Proofs.Ytlbhaegdcpacpaa
open Go.RowKit
set_option linter.unusedVariables false

mutual
theorem vt_of_visit (g : Gram) : ∀ (t : Tree) (n : Int), (visitE g t n).1 = 0 → vt g t (rootS g t)
  | ⟨r, t, ks⟩, n, h => by
    unfold visitE at h
    split at h
    · simp at h
    split at h
    · rename_i h1 h2
      subst h2
      split at h
      · simp at h
      · rename_i h3
        have hk : ks = [] := by false_or_by_contra; rename_i h4; exact h3 (.inr (.inr h4))
        subst hk
        simp [rootS, vt]
    split at h
    · simp at h
    rename_i h1 h2 h3
    split at h
    · simp at h
    · rename_i q hq
      split at h
      · simp at h
      · rename_i h4
        have ht : t = 0 := by false_or_by_contra; rename_i h5; exact h4 (.inl h5)
        have hl : ks.length = q.right.length := by false_or_by_contra; rename_i h5; exact h4 (.inr h5)
        unfold vt
        simp only [rootS, if_neg h3, hq]
        exact ⟨ht, by omega, q, rfl, rfl, vts_of_kids g ks q.right _ hl h⟩
theorem vts_of_kids (g : Gram) : ∀ (ks : List Tree) (ss : List Sym) (n : Int), ks.length = ss.length → (kidsE g ks ss n).1 = 0 → vts g ks ss
  | [], [], _, _, _ => by simp [vts]
  | k :: ks, s :: ss, n, hl, h => by
    unfold kidsE at h
    split at h
    · rename_i h1; exact absurd h h1
    · split at h
      · simp at h
      · rename_i h1 h2
        have e : rootS g k = s := by false_or_by_contra; rename_i h5; exact h2 h5
        unfold vts
        exact ⟨e ▸ vt_of_visit g k n (by omega), vts_of_kids g ks ss _ (by simpa using hl) h⟩
  | [], _ :: _, _, hl, _ => by simp at hl
  | _ :: _, [], _, hl, _ => by simp at hl
end

theorem vts_len' {g : Gram} : ∀ (ks : List Tree) (ss : List Sym), vts g ks ss → ks.length = ss.length
  | [], [], _ => rfl
  | k :: ks, s :: ss, h => by unfold vts at h; simp [vts_len' ks ss h.2]
  | [], _ :: _, h => by unfold vts at h; exact h.elim
  | _ :: _, [], h => by unfold vts at h; exact h.elim

/-! ### The flat tree of a layered one -/
mutual
def backT (to : List Int) : Tree → Tree
  | ⟨r, t, ks⟩ => if r < 0 then ⟨-1, t, []⟩ else if to.getD r.toNat 0 < 0 then backH to ks else ⟨to.getD r.toNat 0, 0, backL to ks⟩
def backH (to : List Int) : List Tree → Tree
  | [] => ⟨0, 0, []⟩
  | k :: _ => backT to k
def backL (to : List Int) : List Tree → List Tree
  | [] => []
  | k :: ks => backT to k :: backL to ks
end
mutual
def okB (to : List Int) : Tree → Prop
  | ⟨r, t, ks⟩ => (r = -1 ∧ ks = []) ∨ (0 ≤ r ∧ t = 0 ∧ ks.length ≤ 1000 ∧ ∃ v, to[r.toNat]? = some v ∧ (v < 0 → ks ≠ []) ∧ okBs to ks)
def okBs (to : List Int) : List Tree → Prop
  | [] => True
  | k :: ks => okB to k ∧ okBs to ks
end
theorem okBs_mem (to : List Int) : ∀ (ks : List Tree), okBs to ks → ∀ k ∈ ks, okB to k
  | [], _, k, hk => by simp at hk
  | x :: xs, h, k, hk => by
    unfold okBs at h
    rcases List.mem_cons.1 hk with e | e
    · exact e ▸ h.1
    · exact okBs_mem to xs h.2 k e
mutual
theorem okB_of {g : Gram} {to : List Int} (H : ∀ (i : Nat) (q : Rule), g.rules[i]? = some q → ∃ v, to[i]? = some v ∧ (v < 0 → q.right ≠ []) ∧ q.right.length ≤ 1000) : ∀ (t : Tree) (s : Sym), vt g t s → okB to t
  | ⟨r, t, ks⟩, s, h => by
    unfold vt at h
    unfold okB
    split at h
    · exact .inl ⟨h.1, h.2.2⟩
    · obtain ⟨h1, h2, q, h3, h4, h5⟩ := h
      obtain ⟨v, hv, hn, hl⟩ := H _ _ h3
      exact .inr ⟨h2, h1, by rw [vts_len' ks q.right h5]; exact hl, v, hv, fun hv0 hks => (hn hv0) (by
        subst hks
        cases hq : q.right with
        | nil => rfl
        | cons a l => rw [hq] at h5; simp [vts] at h5), okBs_of H ks q.right h5⟩
theorem okBs_of {g : Gram} {to : List Int} (H : ∀ (i : Nat) (q : Rule), g.rules[i]? = some q → ∃ v, to[i]? = some v ∧ (v < 0 → q.right ≠ []) ∧ q.right.length ≤ 1000) : ∀ (ks : List Tree) (ss : List Sym), vts g ks ss → okBs to ks
  | [], _, _ => by simp [okBs]
  | k :: ks, s :: ss, h => by
    unfold vts at h
    unfold okBs
    exact ⟨okB_of H k s h.1, okBs_of H ks ss h.2⟩
  | _ :: _, [], h => by simp [vts] at h
end
theorem nums_get : ∀ (os : List Int) (r : Int) (i : Nat) (o : Int), os[i]? = some o → (nums r os)[i]? = some (r + (i : Int))
  | [], _, i, o, h => by simp at h
  | x :: os, r, 0, o, h => by simp [nums]
  | x :: os, r, i + 1, o, h => by
    have := nums_get os (r + 1) i o (by simpa using h)
    simp only [nums, List.getElem?_cons_succ, this]
    congr 1; omega
theorem layTo_get : ∀ (ls : List Level) (k : Nat) (r : Int) (i : Nat) (q : Rule), 0 ≤ r → (layFrom k ls)[i]? = some q → ∃ v, (toFrom r ls)[i]? = some v ∧ -1 ≤ v ∧ v ≤ r + (i : Int) ∧ (v < 0 → q.right ≠ []) ∧ q.right.length ≤ 3
  | [], k, r, i, q, _, h => by simp [layFrom] at h
  | l :: ls, k, r, i, q, hr, h => by
    unfold layFrom at h
    unfold toFrom
    rcases Nat.lt_or_ge i l.ops.length with hlt | hge
    · rw [List.getElem?_append_left (by simpa using hlt)] at h
      obtain ⟨o, ho⟩ := get_some hlt
      rw [List.getElem?_map, ho] at h
      rw [List.getElem?_append_left (by rw [nums_len]; exact hlt), nums_get _ _ _ _ ho]
      simp only [Option.map_some, Option.some.injEq] at h
      subst h
      refine ⟨_, rfl, by omega, by omega, fun h => by omega, ?_⟩
      unfold layRule
      dsimp only
      split
      · simp
      · split
        · simp
        · split <;> simp
    · rw [List.getElem?_append_right (by simpa using hge)] at h
      rw [List.getElem?_append_right (by rw [nums_len]; exact hge), nums_len]
      simp only [List.length_map] at h
      cases hi : i - l.ops.length with
      | zero =>
        rw [hi] at h
        simp only [List.getElem?_cons_zero, Option.some.injEq] at h
        subst h
        exact ⟨-1, by simp, by omega, by omega, fun _ => by simp, by simp⟩
      | succ j =>
        rw [hi] at h
        simp only [List.getElem?_cons_succ] at h ⊢
        obtain ⟨v, h1, h2, h3, h4, h5⟩ := layTo_get ls (k + 1) (r + (l.ops.length : Int)) j q (by omega) h
        exact ⟨v, h1, h2, by omega, h4, h5⟩
theorem lay_to (b : Bool) (t : Table) (i : Nat) (q : Rule) (h : (layRules b t)[i]? = some q) : ∃ v, (layTo b t)[i]? = some v ∧ (v < 0 → q.right ≠ []) ∧ q.right.length ≤ 1000 := by
  unfold layRules at h
  unfold layTo
  have hl : (layFrom 0 t.levels).length = (toFrom (if b then 2 else 1) t.levels).length := by rw [layFrom_len, toFrom_len]
  rcases Nat.lt_or_ge i (layFrom 0 t.levels).length with hlt | hge
  · rw [List.getElem?_append_left hlt] at h
    rw [List.getElem?_append_left (by omega)]
    obtain ⟨v, h1, _, _, h4, h5⟩ := layTo_get _ _ _ _ _ (by split <;> omega : (0 : Int) ≤ (if b then 2 else 1)) h
    exact ⟨v, h1, h4, by omega⟩
  · rw [List.getElem?_append_right hge] at h
    rw [List.getElem?_append_right (by omega), ← hl]
    generalize i - (layFrom 0 t.levels).length = j at h ⊢
    unfold layTailR at h
    unfold layTailL
    cases b
    · match j with
      | 0 => simp at h; subst h; exact ⟨0, by simp, by omega, by simp⟩
      | j + 1 => simp at h
    · match j with
      | 0 => simp at h; subst h; exact ⟨0, by simp, by omega, by simp⟩
      | 1 => simp at h; subst h; exact ⟨1, by simp, by omega, by simp⟩
      | j + 2 => simp at h

/-! ### Whether a flat tree respects the levels -/
def levE (t : Table) (r : Int) : Int := (flatLev t).getD r.toNat 0
def lastT (ks : List Tree) : Tree := ks.getLastD ⟨0, 0, []⟩
def headT (ks : List Tree) : Tree := ks.headD ⟨0, 0, []⟩
def nodeE (t : Table) (r : Int) (ks : List Tree) : Bool :=
  match t.levels[(levE t r).toNat]? with
  | none => true
  | some l => decide ((if l.kind = 2 ∨ l.kind = 3 then levE t r else levE t r + 1) ≤ levE t (lastT ks).rule) && (decide (l.kind = 3) || decide ((if l.kind = 1 then levE t r else levE t r + 1) ≤ levE t (headT ks).rule))
mutual
def allowE (t : Table) : Tree → Bool
  | ⟨r, _, ks⟩ => if r < 0 then true else allowEs t ks && nodeE t r ks
def allowEs (t : Table) : List Tree → Bool
  | [] => true
  | k :: ks => allowE t k && allowEs t ks
end
def hitE (l : Level) (ks : List Tree) : Bool := (ks.take 2).any fun k => decide (k.rule = -1) && decide (k.term ∈ l.ops)
def opFrom : Nat → List Level → List Tree → Int × Int
  | k, [], _ => ((k : Int), -1)
  | k, l :: ls, ks => if hitE l ks then ((k : Int), l.kind) else opFrom (k + 1) ls ks
def opOfE (t : Table) (ks : List Tree) : Int × Int := if 1 < ks.length then opFrom 0 t.levels ks else ((t.levels.length : Int), -1)
def nodeR (t : Table) (ks : List Tree) : Bool :=
  if (opOfE t ks).2 < 0 then true else
    !(decide ((opOfE t (lastT ks).kids).1 < (opOfE t ks).1) || decide ((opOfE t (lastT ks).kids).1 = (opOfE t ks).1) && decide ((opOfE t ks).2 < 2)) &&
      (decide (ks.length ≠ 3) || !(decide ((opOfE t (headT ks).kids).1 < (opOfE t ks).1) || decide ((opOfE t (headT ks).kids).1 = (opOfE t ks).1) && decide ((opOfE t ks).2 ≠ 1)))
mutual
def allowR (t : Table) : Tree → Bool
  | ⟨_, _, ks⟩ => nodeR t ks && allowRs t ks
def allowRs (t : Table) : List Tree → Bool
  | [] => true
  | k :: ks => (decide (k.rule < 0) || allowR t k) && allowRs t ks
end

theorem opFrom_none : ∀ (ls : List Level) (k : Nat) (ks : List Tree), (∀ l ∈ ls, hitE l ks = false) → opFrom k ls ks = (((k + ls.length : Nat) : Int), -1)
  | [], k, ks, _ => by simp [opFrom]
  | l :: ls, k, ks, h => by
    unfold opFrom
    rw [if_neg (by rw [h l (by simp)]; simp), opFrom_none ls (k + 1) ks (fun x hx => h x (by simp [hx]))]
    simp only [List.length_cons]
    congr 2; omega
theorem opFrom_hit : ∀ (ls : List Level) (k j : Nat) (l : Level) (ks : List Tree), ls[j]? = some l → hitE l ks = true → (∀ (i : Nat) (l' : Level), i < j → ls[i]? = some l' → hitE l' ks = false) → opFrom k ls ks = (((k + j : Nat) : Int), l.kind)
  | [], _, j, l, _, h, _, _ => by simp at h
  | x :: ls, k, 0, l, ks, h, hh, _ => by
    simp at h; subst h
    unfold opFrom
    rw [if_pos hh]; rfl
  | x :: ls, k, j + 1, l, ks, h, hh, hn => by
    unfold opFrom
    rw [if_neg (by rw [hn 0 x (by omega) rfl]; simp), opFrom_hit ls (k + 1) j l ks (by simpa using h) hh (fun i l' hi hl => hn (i + 1) l' (by omega) (by simpa using hl))]
    congr 2; omega
theorem ops_apart : ∀ (ls : List Level) (i j : Nat) (a b : Level) (x : Int), ((ls.map Level.ops).flatten).Nodup → ls[i]? = some a → ls[j]? = some b → x ∈ a.ops → x ∈ b.ops → i = j
  | [], i, j, a, b, x, _, h, _, _, _ => by simp at h
  | l :: ls, i, j, a, b, x, hn, hi, hj, ha, hb => by
    simp only [List.map_cons, List.flatten_cons, List.nodup_append] at hn
    have hin : ∀ (m : Nat) (c : Level), ls[m]? = some c → x ∈ c.ops → x ∈ (ls.map Level.ops).flatten := fun m c hm hc => List.mem_flatten.2 ⟨c.ops, List.mem_map.2 ⟨c, List.mem_of_getElem? hm, rfl⟩, hc⟩
    match i, j with
    | 0, 0 => rfl
    | 0, j + 1 => simp at hi hj; subst hi; exact absurd rfl (hn.2.2 x ha x (hin j b hj hb))
    | i + 1, 0 => simp at hi hj; subst hj; exact absurd rfl (hn.2.2 x hb x (hin i a hi ha))
    | i + 1, j + 1 => rw [ops_apart ls i j a b x hn.2.1 (by simpa using hi) (by simpa using hj) ha hb]

theorem lev_get : ∀ (ls : List Level) (k i : Nat) (q : Rule), ((ls.map levRules).flatten)[i]? = some q → ∃ (j : Nat) (l : Level) (op : Int), (levFrom k ls)[i]? = some ((k + j : Nat) : Int) ∧ ls[j]? = some l ∧ op ∈ l.ops ∧ q = opRule l.kind op
  | [], _, i, q, h => by simp at h
  | l :: ls, k, i, q, h => by
    simp only [List.map_cons, List.flatten_cons] at h
    unfold levFrom
    rcases Nat.lt_or_ge i l.ops.length with hlt | hge
    · rw [List.getElem?_append_left (by simpa [levRules] using hlt)] at h
      rw [List.getElem?_append_left (by simpa using hlt)]
      obtain ⟨o, ho⟩ := get_some hlt
      simp only [levRules, List.getElem?_map, ho, Option.map_some, Option.some.injEq] at h ⊢
      exact ⟨0, l, o, rfl, rfl, List.mem_of_getElem? ho, h.symm⟩
    · rw [List.getElem?_append_right (by simpa [levRules] using hge)] at h
      rw [List.getElem?_append_right (by simpa using hge)]
      simp only [levRules, List.length_map] at h ⊢
      obtain ⟨j, a, op, h1, h2, h3, h4⟩ := lev_get ls (k + 1) _ q h
      exact ⟨j + 1, a, op, by rw [h1]; congr 2; omega, by simpa using h2, h3, h4⟩
/-- A flat rule and its level. -/
def FlatRow (t : Table) (q : Rule) (v : Int) : Prop :=
  (v = (t.levels.length : Int) ∧ (q.right = [⟨true, t.atom⟩] ∨ brk t = true ∧ q.right = [⟨true, t.opn⟩, ⟨false, 0⟩, ⟨true, t.cls⟩])) ∨
    ∃ (k : Nat) (l : Level) (op : Int), v = (k : Int) ∧ t.levels[k]? = some l ∧ op ∈ l.ops ∧ q = opRule l.kind op
theorem flat_row (t : Table) (i : Nat) (q : Rule) (h : (flatRules t)[i]? = some q) : ∃ v, (flatLev t)[i]? = some v ∧ FlatRow t q v := by
  unfold flatRules at h
  unfold flatLev
  match i with
  | 0 => simp at h; subst h; exact ⟨_, rfl, .inl ⟨rfl, .inl rfl⟩⟩
  | i + 1 =>
    simp only [List.getElem?_cons_succ] at h ⊢
    cases hb : brk t
    · rw [hb] at h
      simp only [Bool.false_eq_true, if_false, List.nil_append] at h ⊢
      obtain ⟨j, l, op, h1, h2, h3, h4⟩ := lev_get t.levels 0 i q h
      exact ⟨_, h1, .inr ⟨j, l, op, by simp, h2, h3, h4⟩⟩
    · rw [hb] at h
      simp only [if_true, List.cons_append, List.nil_append] at h ⊢
      match i with
      | 0 => simp at h; subst h; exact ⟨_, rfl, .inl ⟨rfl, .inr ⟨hb, rfl⟩⟩⟩
      | i + 1 =>
        simp only [List.getElem?_cons_succ] at h ⊢
        obtain ⟨j, l, op, h1, h2, h3, h4⟩ := lev_get t.levels 0 i q h
        exact ⟨_, h1, .inr ⟨j, l, op, by simp, h2, h3, h4⟩⟩
theorem levE_of {t : Table} {i : Nat} {v r : Int} (h : (flatLev t)[i]? = some v) (hr : i = r.toNat) : levE t r = v := by
  unfold levE
  rw [List.getD_eq_getElem?_getD, ← hr, h]; rfl

/-- The kids of a node of the flat grammar. -/
inductive KidsF (t : Table) (g : Gram) (ks : List Tree) (v : Int) : Prop where
  | atom (h : v = (t.levels.length : Int)) (a : Int) (e : ks = [⟨-1, a, []⟩])
  | brk (h : v = (t.levels.length : Int)) (hb : brk t = true) (y : Tree) (hy : vt g y ⟨false, 0⟩) (e : ks = [⟨-1, t.opn, []⟩, y, ⟨-1, t.cls, []⟩])
  | pre (k : Nat) (l : Level) (op : Int) (h : v = (k : Int)) (hl : t.levels[k]? = some l) (ho : op ∈ l.ops) (h3 : l.kind = 3) (y : Tree) (hy : vt g y ⟨false, 0⟩) (e : ks = [⟨-1, op, []⟩, y])
  | inf (k : Nat) (l : Level) (op : Int) (h : v = (k : Int)) (hl : t.levels[k]? = some l) (ho : op ∈ l.ops) (h3 : l.kind ≠ 3) (x y : Tree) (hx : vt g x ⟨false, 0⟩) (hy : vt g y ⟨false, 0⟩) (e : ks = [x, ⟨-1, op, []⟩, y])
theorem vt_leaf {g : Gram} {x : Tree} {a : Int} (h : vt g x ⟨true, a⟩) : x = ⟨-1, a, []⟩ := by
  obtain ⟨r, t, ks⟩ := x
  unfold vt at h
  simp at h
  obtain ⟨rfl, rfl, rfl⟩ := h
  rfl
theorem vts_one {g : Gram} {ks : List Tree} {a : Sym} (h : vts g ks [a]) : ∃ x, ks = [x] ∧ vt g x a := by
  match ks, h with
  | [x], h => simp [vts] at h; exact ⟨x, rfl, h⟩
  | [], h => simp [vts] at h
  | x :: y :: l, h => simp [vts] at h
theorem vts_cons {g : Gram} {ks : List Tree} {a : Sym} {ss : List Sym} (h : vts g ks (a :: ss)) : ∃ x l, ks = x :: l ∧ vt g x a ∧ vts g l ss := by
  match ks, h with
  | x :: l, h => unfold vts at h; exact ⟨x, l, rfl, h.1, h.2⟩
  | [], h => simp [vts] at h
theorem kidsF_of {t : Table} {g : Gram} {ks : List Tree} {q : Rule} {v : Int} (h : FlatRow t q v) (hk : vts g ks q.right) : KidsF t g ks v := by
  rcases h with ⟨hv, h | ⟨hb, h⟩⟩ | ⟨k, l, op, hv, hl, ho, rfl⟩
  · rw [h] at hk
    obtain ⟨x, rfl, hx⟩ := vts_one hk
    exact .atom hv t.atom (by rw [vt_leaf hx])
  · rw [h] at hk
    obtain ⟨x, l1, rfl, hx, hk⟩ := vts_cons hk
    obtain ⟨y, l2, rfl, hy, hk⟩ := vts_cons hk
    obtain ⟨z, rfl, hz⟩ := vts_one hk
    exact .brk hv hb y hy (by rw [vt_leaf hx, vt_leaf hz])
  · unfold opRule at hk
    by_cases h3 : l.kind = 3
    · simp only [if_pos h3] at hk
      obtain ⟨x, l1, rfl, hx, hk⟩ := vts_cons hk
      obtain ⟨y, rfl, hy⟩ := vts_one hk
      exact .pre k l op hv hl ho h3 y hy (by rw [vt_leaf hx])
    · simp only [if_neg h3] at hk
      obtain ⟨x, l1, rfl, hx, hk⟩ := vts_cons hk
      obtain ⟨y, l2, rfl, hy, hk⟩ := vts_cons hk
      obtain ⟨z, rfl, hz⟩ := vts_one hk
      exact .inf k l op hv hl ho h3 x z hx hz (by rw [vt_leaf hy])
/-- A node of the flat grammar, opened. -/
theorem flat_node {t : Table} {g : Gram} (hg : g.rules = flatRules t) {r x : Int} {ks : List Tree} {s : Sym} (h : vt g ⟨r, x, ks⟩ s) (hs : s.term = false) : 0 ≤ r ∧ x = 0 ∧ ∃ v, (flatLev t)[r.toNat]? = some v ∧ KidsF t g ks v := by
  unfold vt at h
  rw [if_neg (by rw [hs]; simp)] at h
  obtain ⟨h1, h2, q, h3, h4, h5⟩ := h
  rw [hg] at h3
  obtain ⟨v, hv, hf⟩ := flat_row t _ q h3
  exact ⟨h2, h1, v, hv, kidsF_of hf h5⟩
theorem vt_node {g : Gram} {y : Tree} {a : Int} (h : vt g y ⟨false, a⟩) : 0 ≤ y.rule := by
  obtain ⟨r, x, ks⟩ := y
  unfold vt at h
  simp at h
  exact h.2.1

theorem hit_first (l : Level) (a : Int) (y : Tree) (hy : ¬ y.rule = -1) (ks : List Tree) : hitE l (⟨-1, a, []⟩ :: y :: ks) = decide (a ∈ l.ops) := by
  have h : decide (y.rule = -1) = false := decide_eq_false hy
  simp only [hitE, List.take_succ_cons, List.take_zero, List.any_cons, List.any_nil, h, Bool.false_and, Bool.or_false]
  rw [Bool.eq_iff_iff]; simp [Tree.rule, Tree.term]; exact decide_eq_true_iff
theorem hit_second (l : Level) (a : Int) (y : Tree) (hy : ¬ y.rule = -1) (ks : List Tree) : hitE l (y :: ⟨-1, a, []⟩ :: ks) = decide (a ∈ l.ops) := by
  have h : decide (y.rule = -1) = false := decide_eq_false hy
  simp only [hitE, List.take_succ_cons, List.take_zero, List.any_cons, List.any_nil, h, Bool.false_and, Bool.or_false, Bool.false_or]
  rw [Bool.eq_iff_iff]; simp [Tree.rule, Tree.term]; exact decide_eq_true_iff
/-- The operator off the kids, and the level off the rule. -/
theorem op_law {t : Table} (hv : Valid t) {g : Gram} (hg : g.rules = flatRules t) {r x : Int} {ks : List Tree} {s : Sym} (h : vt g ⟨r, x, ks⟩ s) (hs : s.term = false) :
    opOfE t ks = (levE t r, match t.levels[(levE t r).toNat]? with | none => -1 | some l => l.kind) := by
  obtain ⟨h0, rfl, v, hl, hk⟩ := flat_node hg h hs
  rw [levE_of hl rfl]
  have hnd := hv.nodup
  have hop : ((t.levels.map Level.ops).flatten).Nodup := by
    have h1 := (List.nodup_cons.1 hnd).2
    unfold allOps at h1
    exact (List.nodup_append.1 h1).2.1
  have hno : ∀ y : Tree, vt g y ⟨false, 0⟩ → ¬ y.rule = -1 := fun y hy e => by have := vt_node hy; omega
  unfold opOfE
  cases hk with
  | atom hvn a e =>
    subst e; subst hvn
    rw [if_neg (by simp)]
    simp
  | brk hvn hb y hy e =>
    subst e; subst hvn
    rw [if_pos (by simp), opFrom_none]
    · simp
    · intro l hl'
      have h1 : t.opn ∉ l.ops := fun ho => by
        have h1 := (List.nodup_cons.1 hnd).2
        unfold allOps at h1
        rw [if_pos hb] at h1
        exact (List.nodup_append.1 h1).2.2 t.opn (by simp) t.opn (List.mem_flatten.2 ⟨l.ops, List.mem_map.2 ⟨l, hl', rfl⟩, ho⟩) rfl
      rw [hit_first l _ y (hno y hy), decide_eq_false h1]
  | pre k l op hvk hlk ho h3 y hy e =>
    subst e; subst hvk
    rw [if_pos (by simp), opFrom_hit t.levels 0 k l _ hlk (by rw [hit_first l _ y (hno y hy), decide_eq_true ho])]
    · simp [hlk]
    · intro i l' hi hl'
      have h1 : op ∉ l'.ops := fun h => by have := ops_apart t.levels i k l' l op hop hl' hlk h ho; omega
      rw [hit_first l' _ y (hno y hy), decide_eq_false h1]
  | inf k l op hvk hlk ho h3 a y ha hy e =>
    subst e; subst hvk
    rw [if_pos (by simp), opFrom_hit t.levels 0 k l _ hlk (by rw [hit_second l _ a (hno a ha), decide_eq_true ho])]
    · simp [hlk]
    · intro i l' hi hl'
      have h1 : op ∉ l'.ops := fun h => by have := ops_apart t.levels i k l' l op hop hl' hlk h ho; omega
      rw [hit_second l' _ a (hno a ha), decide_eq_false h1]
theorem op_law' {t : Table} (hv : Valid t) {g : Gram} (hg : g.rules = flatRules t) {y : Tree} (h : vt g y ⟨false, 0⟩) : (opOfE t y.kids).1 = levE t y.rule := by
  obtain ⟨r, x, ks⟩ := y
  rw [show (Tree.mk r x ks).kids = ks from rfl, op_law hv hg h rfl]; rfl
theorem node_law {t : Table} (hv : Valid t) {g : Gram} (hg : g.rules = flatRules t) {r x : Int} {ks : List Tree} {s : Sym} (h : vt g ⟨r, x, ks⟩ s) (hs : s.term = false) : nodeR t ks = nodeE t r ks := by
  have hop := op_law hv hg h hs
  obtain ⟨h0, rfl, v, hl, hk⟩ := flat_node hg h hs
  have hlv := levE_of hl rfl
  unfold nodeR nodeE
  rw [hop]
  cases hk with
  | atom hvn a e => subst hvn; rw [hlv]; simp
  | brk hvn hb y hy e => subst hvn; rw [hlv]; simp
  | pre k l op hvk hlk ho h3 y hy e =>
    subst e; subst hvk; rw [hlv]
    simp only [Int.toNat_natCast, hlk, h3]
    have e1 := op_law' hv hg hy
    have e2 : lastT [⟨-1, op, []⟩, y] = y := rfl
    rw [e2, e1]
    generalize levE t y.rule = a
    rw [Bool.eq_iff_iff]
    simp
    try omega
  | inf k l op hvk hlk ho h3 a y ha hy e =>
    subst e; subst hvk; rw [hlv]
    have hkd := hv.kinds l (List.mem_of_getElem? hlk)
    simp only [Int.toNat_natCast, hlk]
    have e1 := op_law' hv hg hy
    have e3 := op_law' hv hg ha
    have e2 : lastT [a, ⟨-1, op, []⟩, y] = y := rfl
    have e4 : headT [a, ⟨-1, op, []⟩, y] = a := rfl
    rw [e2, e1, e4, e3]
    generalize levE t y.rule = b
    generalize levE t a.rule = c
    rw [if_neg (by omega), Bool.eq_iff_iff]
    simp only [List.length_cons, List.length_nil, Bool.and_eq_true, Bool.or_eq_true, Bool.not_eq_true', decide_eq_true_eq, Bool.or_eq_false_iff, decide_eq_false_iff_not, Bool.and_eq_false_iff]
    have h5 : l.kind = 0 ∨ l.kind = 1 ∨ l.kind = 2 := by omega
    rcases h5 with h5 | h5 | h5 <;> simp [h5] <;> omega
mutual
theorem allow_law {t : Table} (hv : Valid t) {g : Gram} (hg : g.rules = flatRules t) : ∀ (x : Tree) (s : Sym), vt g x s → s.term = false → allowR t x = allowE t x
  | ⟨r, x, ks⟩, s, h, hs => by
    unfold allowR allowE
    have h' := h
    unfold vt at h'
    rw [if_neg (by rw [hs]; simp)] at h'
    obtain ⟨h1, h2, q, h3, h4, h5⟩ := h'
    rw [if_neg (by omega), node_law hv hg h hs, allows_law hv hg ks q.right h5, Bool.and_comm]
theorem allows_law {t : Table} (hv : Valid t) {g : Gram} (hg : g.rules = flatRules t) : ∀ (ks : List Tree) (ss : List Sym), vts g ks ss → allowRs t ks = allowEs t ks
  | [], _, _ => by simp [allowRs, allowEs]
  | k :: ks, s :: ss, h => by
    unfold vts at h
    unfold allowRs allowEs
    rw [allows_law hv hg ks ss h.2]
    congr 1
    cases hst : s.term
    · rw [allow_law hv hg k s h.1 hst]
      have : ¬ k.rule < 0 := by
        obtain ⟨st, sn⟩ := s
        dsimp only at hst
        subst hst
        have := vt_node h.1; omega
      simp [this]
    · obtain ⟨st, sn⟩ := s
      dsimp only at hst
      subst hst
      rw [vt_leaf h.1]
      simp [Tree.rule, allowE]
  | _ :: _, [], h => by simp [vts] at h
end
end Go.Proofs.Ytlbhaegdcpacpaa
