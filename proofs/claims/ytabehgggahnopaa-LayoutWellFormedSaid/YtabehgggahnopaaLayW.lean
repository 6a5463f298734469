/- layout.Lines, layout.Strip and the running count of indents over what layout.Tokens gives: the plain law. -/
import Derived.Test.YtabehgggahnopaaLayP
namespace Go.Proofs.Ytabehgggahnopaa
open Go.RowKit
set_option linter.unusedVariables false

structure LineD where
  depth : Int
  kinds : List Int
deriving DecidableEq
inductive LSt where
  | L (d : Int) (acc : List LineD)
  | D (d : Int) (acc : List LineD)
  | S (d : Int) (acc : List LineD)
  | B (d : Int) (acc : List LineD) (cur : List Int)
def bodyS (k : K3) (d : Int) (acc : List LineD) (cur : List Int) (x : Int) : Option LSt :=
  if isK k x then (if cur = [] ∨ x ≠ k.k2 then none else some (.L d (acc ++ [⟨d, cur⟩]))) else some (.B d acc (cur ++ [x]))
def stepL (k : K3) : LSt → Int → Option LSt
  | .L d acc, x => if x = k.k0 then some (.S (d + 1) acc) else if x = k.k1 then some (.D (d - 1) acc) else bodyS k d acc [] x
  | .D d acc, x => if x = k.k1 then some (.D (d - 1) acc) else if d < 0 then none else bodyS k d acc [] x
  | .S d acc, x => bodyS k d acc [] x
  | .B d acc cur, x => bodyS k d acc cur x
def finL : LSt → Option (List LineD)
  | .L d acc => if d = 0 then some acc else none
  | .D d acc => if d = 0 then some acc else none
  | .S d acc => if d = 0 then some acc else none
  | .B _ _ _ => none
def foldL (k : K3) : LSt → List Int → Option LSt
  | st, [] => some st
  | st, x :: r => (stepL k st x).bind (fun st' => foldL k st' r)
def runL (k : K3) (st : LSt) (l : List Int) : Option (List LineD) := (foldL k st l).bind finL
def kindsT (l : List Tok) : List Int := l.map (·.kind)
def linesL (l : List Tok) (k : K3) : List LineD × Int :=
  if 1600 < l.length then ([], 2) else if twiceK k then ([], 6) else match runL k (.S 0 []) (kindsT l) with
    | none => ([], 3)
    | some r => (r, 0)
/-- The running count of indents. -/
def cntStep (k : K3) (m x : Int) : Int := if x = k.k0 then m + 1 else if x = k.k1 then m - 1 else m
def cnt (k : K3) : Int → List Int → Option Int
  | m, [] => some m
  | m, x :: r => if cntStep k m x < 0 then none else cnt k (cntStep k m x) r
def stripL (k : K3) (l : List Tok) : List Tok := l.filter (fun t => !isK k t.kind)

section
variable {k : K3} {st : LSt}
theorem foldL_app (a : List Int) : ∀ (st : LSt) (b : List Int), foldL k st (a ++ b) = (foldL k st a).bind (fun s => foldL k s b) := by
  induction a with
  | nil => intro st b; rfl
  | cons x a ih =>
    intro st b
    simp only [List.cons_append, foldL]
    cases h : stepL k st x with
    | none => rfl
    | some s => exact ih s b
theorem foldL_snoc {a : List Int} {s1 s2 : LSt} {x : Int} (h : foldL k st a = some s1) (h2 : stepL k s1 x = some s2) : foldL k st (a ++ [x]) = some s2 := by
  rw [foldL_app, h]; simp [foldL, h2]
theorem cnt_app (a : List Int) : ∀ (m : Int) (b : List Int), cnt k m (a ++ b) = (cnt k m a).bind (fun s => cnt k s b) := by
  induction a with
  | nil => intro st b; rfl
  | cons x a ih =>
    intro m b
    simp only [List.cons_append, cnt]
    split
    · rfl
    · exact ih _ b
theorem cnt_snoc {a : List Int} {m m1 m2 x : Int} (h : cnt k m a = some m1) (h2 : cntStep k m1 x = m2) (h3 : 0 ≤ m2) : cnt k m (a ++ [x]) = some m2 := by
  rw [cnt_app, h]; simp [cnt, h2]; omega
theorem isK_0 : isK k k.k0 = true := by simp [isK]
theorem isK_1 : isK k k.k1 = true := by simp [isK]
theorem isK_2 : isK k k.k2 = true := by simp [isK]
theorem isK_ne {n : Int} (h : isK k n = false) : n ≠ k.k0 ∧ n ≠ k.k1 ∧ n ≠ k.k2 := by
  simp [isK] at h; exact ⟨h.1.1, h.1.2, h.2⟩
theorem twiceK_ne (h : twiceK k = false) : k.k0 ≠ k.k1 ∧ k.k0 ≠ k.k2 ∧ k.k1 ≠ k.k2 := by
  simp [twiceK] at h; exact ⟨h.1.1, h.1.2, h.2⟩
theorem bodyS_in {d : Int} {acc : List LineD} {cur : List Int} {x : Int} (h : isK k x = false) : bodyS k d acc cur x = some (.B d acc (cur ++ [x])) := by simp [bodyS, h]
theorem bodyS_end {d : Int} {acc : List LineD} {cur : List Int} (h : cur ≠ []) : bodyS k d acc cur k.k2 = some (.L d (acc ++ [⟨d, cur⟩])) := by simp [bodyS, isK_2, h]
theorem foldD (hk : twiceK k = false) {acc : List LineD} : ∀ (n : Nat) (d : Int), foldL k (.D d acc) (List.replicate n k.k1) = some (.D (d - n) acc)
  | 0, d => by simp [foldL]
  | n + 1, d => by
    rw [List.replicate_succ, foldL]
    simp only [stepL, if_true, Option.bind_some]
    rw [foldD hk n (d - 1)]
    congr 2; omega
theorem foldLD (hk : twiceK k = false) {acc : List LineD} {d : Int} (n : Nat) : foldL k (.L d acc) (List.replicate (n + 1) k.k1) = some (.D (d - (n + 1 : Nat)) acc) := by
  have h := twiceK_ne hk
  rw [List.replicate_succ, foldL]
  simp only [stepL, if_neg (fun e : k.k1 = k.k0 => h.1 e.symm), if_true, Option.bind_some]
  rw [foldD hk n (d - 1)]
  congr 2; omega
theorem cntD (hk : twiceK k = false) : ∀ (n : Nat) (m : Int), (n : Int) ≤ m → cnt k m (List.replicate n k.k1) = some (m - n)
  | 0, m, _ => by simp [cnt]
  | n + 1, m, h => by
    have h1 := twiceK_ne hk
    have e : cntStep k m k.k1 = m - 1 := by unfold cntStep; rw [if_neg (fun e => h1.1 e.symm), if_pos rfl]
    rw [List.replicate_succ, cnt, e, if_neg (by omega), cntD hk n (m - 1) (by omega)]
    congr 1; omega
/-- What stands while the tokens are read: the lines so far. -/
def LaI (k : K3) (done out : List Tok) (stk : List Int) : Prop :=
  ∃ acc cur, cur ≠ [] ∧ foldL k (.S 0 []) (kindsT out) = some (.B (stk.length - 1) acc cur) ∧ cnt k 0 (kindsT out) = some ((stk.length : Int) - 1) ∧ stripL k out = done ∧ out.length + stk.length ≤ 4 * done.length ∧ stk[0]? = some 0
theorem kindsT_snoc {l : List Tok} {t : Tok} : kindsT (l ++ [t]) = kindsT l ++ [t.kind] := by simp [kindsT]
theorem stripL_in {l : List Tok} {t : Tok} (h : isK k t.kind = false) : stripL k (l ++ [t]) = stripL k l ++ [t] := by simp [stripL, h]
theorem stripL_out {l : List Tok} {t : Tok} (h : isK k t.kind = true) : stripL k (l ++ [t]) = stripL k l := by simp [stripL, h]
theorem stripL_rep {l : List Tok} {t : Tok} {n : Nat} (h : isK k t.kind = true) : stripL k (l ++ List.replicate n t) = stripL k l := by
  unfold stripL; rw [List.filter_append, List.filter_replicate]; simp [h]
theorem kindsT_rep {l : List Tok} {t : Tok} {n : Nat} : kindsT (l ++ List.replicate n t) = kindsT l ++ List.replicate n t.kind := by simp [kindsT]
theorem cntStep_in {m x : Int} (h : isK k x = false) : cntStep k m x = m := by
  have h := isK_ne h
  unfold cntStep; rw [if_neg h.1, if_neg h.2.1]
theorem cntStep_2 {m : Int} (hk : twiceK k = false) : cntStep k m k.k2 = m := by
  have h := twiceK_ne hk
  unfold cntStep; rw [if_neg (fun e => h.2.1 e.symm), if_neg (fun e => h.2.2 e.symm)]
/-- One more token of the line. -/
theorem LaI.same {done out : List Tok} {stk : List Int} {t : Tok} (h : LaI k done out stk) (ht : isK k t.kind = false) : LaI k (done ++ [t]) (out ++ [t]) stk := by
  obtain ⟨acc, cur, h1, h2, h3, h4, h5, h6⟩ := h
  have hl := (List.getElem?_eq_some_iff.1 h6).1
  refine ⟨acc, cur ++ [t.kind], by simp, ?_, ?_, ?_, ?_, h6⟩
  · rw [kindsT_snoc]; exact foldL_snoc h2 (by simp [stepL, bodyS_in ht])
  · rw [kindsT_snoc]; exact cnt_snoc h3 (cntStep_in ht) (by omega)
  · rw [stripL_in ht, h4]
  · simp; omega
/-- A line's end. -/
def LaL (k : K3) (done out : List Tok) (stk : List Int) (st : LSt) : Prop :=
  foldL k (.S 0 []) (kindsT out) = some st ∧ cnt k 0 (kindsT out) = some ((stk.length : Int) - 1) ∧ stripL k out = done ∧ out.length + stk.length ≤ 4 * done.length + 3 ∧ stk[0]? = some 0
theorem LaI.fin {done out : List Tok} {stk : List Int} {t : Tok} (h : LaI k done out stk) (hk : twiceK k = false) (ht : t.kind = k.k2) : ∃ acc, LaL k done (out ++ [t]) stk (.L (stk.length - 1) acc) := by
  obtain ⟨acc, cur, h1, h2, h3, h4, h5, h6⟩ := h
  have hl := (List.getElem?_eq_some_iff.1 h6).1
  refine ⟨acc ++ [⟨stk.length - 1, cur⟩], ?_, ?_, ?_, ?_, h6⟩
  · rw [kindsT_snoc, ht]; exact foldL_snoc h2 (by simp [stepL, bodyS_end h1])
  · rw [kindsT_snoc, ht]; exact cnt_snoc h3 (cntStep_2 hk) (by omega)
  · rw [stripL_out (by rw [ht]; exact isK_2), h4]
  · simp; omega
/-- Behind a line's end (or at the beginning) the first token of a line. -/
theorem LaL.tok {done out : List Tok} {stk : List Int} {t : Tok} {acc : List LineD} {st : LSt} (h : LaL k done out stk st) (ht : isK k t.kind = false) (hs : stepL k st t.kind = some (.B (stk.length - 1) acc [t.kind])) : LaI k (done ++ [t]) (out ++ [t]) stk := by
  obtain ⟨h2, h3, h4, h5, h6⟩ := h
  have hl := (List.getElem?_eq_some_iff.1 h6).1
  refine ⟨acc, [t.kind], by simp, ?_, ?_, ?_, ?_, h6⟩
  · rw [kindsT_snoc]; exact foldL_snoc h2 hs
  · rw [kindsT_snoc]; exact cnt_snoc h3 (cntStep_in ht) (by omega)
  · rw [stripL_in ht, h4]
  · simp; omega
theorem tokEnd_S {done out out' : List Tok} {stk stk' : List Int} {t : Tok} {col : Int} {acc : List LineD} (h : LaL k done out stk (.S (stk.length - 1) acc)) (ht : isK k t.kind = false) (hk : keepN col stk stk.length = stk.length) (he : tokEnd k t col out stk = .inl (out', stk')) : LaI k (done ++ [t]) out' stk' := by
  unfold tokEnd at he
  rw [hk] at he
  simp only [Nat.sub_self, List.replicate_zero, List.append_nil, List.take_length] at he
  split at he
  · injection he with he; injection he with e1 e2
    subst e1; subst e2
    exact h.tok (acc := acc) ht (by simp [stepL, bodyS_in ht])
  · cases he
theorem tokEnd_L {done out out' : List Tok} {stk stk' : List Int} {t : Tok} {col : Int} {acc : List LineD} (h : LaL k done out stk (.L (stk.length - 1) acc)) (hk : twiceK k = false) (ht : isK k t.kind = false) (hc : 0 ≤ col) (he : tokEnd k t col out stk = .inl (out', stk')) : LaI k (done ++ [t]) out' stk' := by
  obtain ⟨h2, h3, h4, h5, h6⟩ := h
  have hl := (List.getElem?_eq_some_iff.1 h6).1
  have hn := keepN_le col stk stk.length
  have hp := keepN_pos h6 hc stk.length (by omega)
  unfold tokEnd at he
  obtain ⟨n, hn'⟩ : ∃ n, n = keepN col stk stk.length := ⟨_, rfl⟩
  rw [← hn'] at he hn hp
  split at he
  · injection he with he; injection he with e1 e2
    subst e1; subst e2
    have hne := isK_ne ht
    have h6' : (stk.take n)[0]? = some 0 := by rw [List.getElem?_take, if_pos (by omega)]; exact h6
    have hlen : (stk.take n).length = n := by rw [List.length_take]; omega
    cases hm : stk.length - n with
    | zero =>
      rw [show n = stk.length by omega, List.take_length, List.replicate_zero, List.append_nil]
      exact LaL.tok (acc := acc) ⟨h2, h3, h4, h5, h6⟩ ht (by simp [stepL, bodyS_in ht, hne.1, hne.2.1])
    | succ m =>
      have hD : LaL k done (out ++ List.replicate (m + 1) ⟨k.k1, t.frm, t.frm⟩) (stk.take n) (.D (((stk.take n).length : Int) - 1) acc) := by
        refine ⟨?_, ?_, ?_, ?_, h6'⟩
        · rw [kindsT_rep, foldL_app, h2, Option.bind_some, foldLD hk]; rw [hlen]; congr 2; omega
        · rw [kindsT_rep, cnt_app, h3, Option.bind_some, cntD hk _ _ (by omega)]; rw [hlen]; congr 1; omega
        · rw [stripL_rep (by exact isK_1), h4]
        · rw [List.length_append, List.length_replicate, hlen]; omega
      exact hD.tok (acc := acc) ht (by simp [stepL, bodyS_in ht, hne.2.1]; omega)
  · cases he
theorem keepN_top {stk : List Int} {col : Int} (h : lastD stk ≤ col) (hs : stk ≠ []) : keepN col stk stk.length = stk.length := by
  obtain ⟨m, hm⟩ : ∃ m, stk.length = m + 1 := ⟨stk.length - 1, by have := List.length_pos_iff.2 hs; omega⟩
  obtain ⟨x, hx⟩ := get_some (show m < stk.length by omega)
  rw [hm]
  refine keepN_stop hx ?_
  unfold lastD at h
  rw [hm, Nat.add_sub_cancel, hx] at h
  exact Int.not_lt.2 h
theorem LaL.indent {done out : List Tok} {stk : List Int} {t : Tok} {col : Int} {acc : List LineD} (h : foldL k (.S 0 []) (kindsT out) = some (.L (stk.length - 1) acc) ∧ cnt k 0 (kindsT out) = some ((stk.length : Int) - 1) ∧ stripL k out = done ∧ out.length + stk.length ≤ 4 * done.length + 1 ∧ stk[0]? = some 0) (ht : t.kind = k.k0) : LaL k done (out ++ [t]) (stk ++ [col]) (.S ((stk ++ [col]).length - 1) acc) := by
  obtain ⟨h2, h3, h4, h5, h6⟩ := h
  have hl := (List.getElem?_eq_some_iff.1 h6).1
  refine ⟨?_, ?_, ?_, ?_, by rw [List.getElem?_append_left hl]; exact h6⟩
  · rw [kindsT_snoc, ht]; refine foldL_snoc h2 ?_; simp [stepL]
  · rw [kindsT_snoc, ht]; refine cnt_snoc h3 (m2 := ((stk ++ [col]).length : Int) - 1) ?_ ?_
    · simp [cntStep]
    · simp
  · rw [stripL_out (by rw [ht]; exact isK_0), h4]
  · simp; omega
/-- The state between the tokens. -/
def LaP (k : K3) (done : List Tok) (prev : Option Tok) (out : List Tok) (stk : List Int) : Prop :=
  match prev with
  | none => done = [] ∧ out = [] ∧ stk = [0]
  | some _ => LaI k done out stk
theorem tokStep_inv {s : ByteArray} {done out out' : List Tok} {stk stk' : List Int} {prev : Option Tok} {t : Tok} (hk : twiceK k = false) (h : LaP k done prev out stk) (ht : isK k t.kind = false) (h0 : 0 ≤ t.frm) (he : tokStep s k prev out stk t = .inl (out', stk')) : LaI k (done ++ [t]) out' stk' := by
  have hcol : 0 ≤ t.frm - (lnl s t.frm.toNat : Nat) := by have := lnl_le s t.frm.toNat; omega
  unfold tokStep at he
  cases prev with
  | none =>
    obtain ⟨rfl, rfl, rfl⟩ := h
    dsimp only at he
    unfold tokNew at he
    split at he
    · cases he
    · rename_i hn
      refine tokEnd_S (done := []) (acc := []) ⟨rfl, rfl, rfl, by simp, rfl⟩ ht ?_ he
      exact keepN_top (Int.not_lt.1 hn |> fun h => by simp [lastD] at h ⊢; omega) (by simp)
  | some p =>
    have h : LaI k done out stk := h
    dsimp only at he
    split at he
    · injection he with he; injection he with e1 e2
      subst e1; subst e2
      exact h.same ht
    · obtain ⟨acc, hL⟩ := h.fin (t := ⟨k.k2, p.tos, p.tos⟩) hk rfl
      have hl4 := h
      unfold tokNew at he
      split at he
      · rw [if_neg (by decide)] at he
        split at he
        · cases he
        · obtain ⟨a2, c2, g1, g2, g3, g4, g5, g6⟩ := hl4
          have hi := LaL.indent (t := ⟨k.k0, t.frm, t.frm⟩) (col := t.frm - (lnl s t.frm.toNat : Nat)) ⟨hL.1, hL.2.1, hL.2.2.1, by simp; omega, hL.2.2.2.2⟩ rfl
          refine tokEnd_S hi ht (keepN_top ?_ (by simp)) he
          simp [lastD]
      · exact tokEnd_L hL hk ht hcol he
theorem tokRun_inv {s : ByteArray} (hk : twiceK k = false) : ∀ (l done out : List Tok) (stk : List Int) (prev : Option Tok) (r : List Tok × List Int), LaP k done prev out stk → (∀ t ∈ l, 0 ≤ t.frm ∧ isK k t.kind = false) → tokRun s k prev out stk l = .inl r → (l = [] ∧ r = (out, stk)) ∨ LaI k (done ++ l) r.1 r.2
  | [], done, out, stk, prev, r, h, hl, he => by
    unfold tokRun at he
    injection he with he
    exact .inl ⟨rfl, he.symm⟩
  | t :: l, done, out, stk, prev, r, h, hl, he => by
    unfold tokRun at he
    cases hst : tokStep s k prev out stk t with
    | inr e => rw [hst] at he; cases he
    | inl q =>
      obtain ⟨o2, s2⟩ := q
      rw [hst] at he
      have h2 := tokStep_inv hk h (hl t (by simp)).2 (hl t (by simp)).1 hst
      have h3 : LaP k (done ++ [t]) (some t) o2 s2 := h2
      rcases tokRun_inv hk l (done ++ [t]) o2 s2 (some t) r h3 (fun x hx => hl x (by simp [hx])) he with ⟨rfl, rfl⟩ | h4
      · exact .inr (by simpa using h2)
      · exact .inr (by simpa using h4)
theorem tokEnd_ne {t : Tok} {col : Int} {out : List Tok} {stk : List Int} : tokEnd k t col out stk ≠ .inr 0 := by
  unfold tokEnd
  split <;> intro h <;> cases h
theorem tokNew_ne {s : ByteArray} {b : Bool} {t : Tok} {out : List Tok} {stk : List Int} : tokNew s k b out stk t ≠ .inr 0 := by
  unfold tokNew
  split
  · split
    · intro h; cases h
    · split
      · intro h; cases h
      · exact tokEnd_ne
  · exact tokEnd_ne
theorem tokStep_ne {s : ByteArray} {t : Tok} {out : List Tok} {stk : List Int} {prev : Option Tok} : tokStep s k prev out stk t ≠ .inr 0 := by
  unfold tokStep
  split
  · exact tokNew_ne
  · split
    · intro h; cases h
    · exact tokNew_ne
theorem tokRun_ne (s : ByteArray) (k : K3) : ∀ (l : List Tok) (prev : Option Tok) (out : List Tok) (stk : List Int), tokRun s k prev out stk l ≠ .inr 0
  | [], _, _, _ => by unfold tokRun; intro h; cases h
  | t :: l, prev, out, stk => by
    unfold tokRun
    split
    · exact tokRun_ne s k l _ _ _
    · rename_i e he
      intro h
      injection h with h
      subst h
      exact absurd he tokStep_ne
/-- What layout.Tokens gives is well formed. -/
theorem tokensL_good {s : ByteArray} {l : List Tok} (h : (tokensL s l k).2 = 0) :
    cnt k 0 (kindsT (tokensL s l k).1) = some 0 ∧ (linesL (tokensL s l k).1 k).2 = 0 ∧ stripL k (tokensL s l k).1 = l ∧ (tokensL s l k).1.length ≤ 1600 := by
  unfold tokensL at h ⊢
  by_cases hc : checkL s l k ≠ 0
  · rw [if_pos hc] at h; exact absurd h hc
  rw [if_neg hc] at h ⊢
  have hc := Decidable.of_not_not hc
  obtain ⟨_, hl4, hk, hv⟩ := checkL_ok hc
  have hval := checkT_valid l 0 hv
  unfold tokR at h ⊢
  cases hr : tokRun s k none [] [0] l with
  | inr e =>
    rw [hr] at h
    dsimp only at h
    exfalso
    subst h
    exact absurd hr (tokRun_ne s k l none [] [0])
  | inl r =>
    dsimp only
    have hfin : ∀ o : List Tok, cnt k 0 (kindsT o) = some 0 → (∃ st r, foldL k (.S 0 []) (kindsT o) = some st ∧ finL st = some r) → stripL k o = l → o.length ≤ 1600 → cnt k 0 (kindsT o) = some 0 ∧ (linesL o k).2 = 0 ∧ stripL k o = l ∧ o.length ≤ 1600 := by
      intro o h1 ⟨st, q, h2, h2'⟩ h3 h4
      refine ⟨h1, ?_, h3, h4⟩
      unfold linesL
      rw [if_neg (by omega), hk, if_neg (by decide)]
      unfold runL
      rw [h2, Option.bind_some, h2']
    rcases tokRun_inv hk l [] [] [0] none r ⟨rfl, rfl, rfl⟩ (fun t ht => by have := hval t ht; exact ⟨by omega, this.2.2.2⟩) hr with ⟨rfl, rfl⟩ | hI
    · rw [if_pos rfl]
      exact hfin [] rfl ⟨.S 0 [], [], rfl, rfl⟩ rfl (by simp)
    · have hne : l ≠ [] := by
        rintro rfl
        obtain ⟨_, _, _, _, _, _, h5, h6⟩ := hI
        have := (List.getElem?_eq_some_iff.1 h6).1
        simp only [List.append_nil, List.length_nil] at h5; omega
      rw [if_neg hne]
      obtain ⟨ro, rs⟩ := r
      dsimp only at hI ⊢
      rw [List.nil_append] at hI
      obtain ⟨acc, hL⟩ := hI.fin (t := ⟨k.k2, lastTos l, lastTos l⟩) hk rfl
      obtain ⟨_, _, _, _, _, _, h5, _⟩ := hI
      obtain ⟨g1, g2, g3, g4, g6⟩ := hL
      have hl := (List.getElem?_eq_some_iff.1 g6).1
      refine hfin _ ?_ ?_ ?_ ?_
      · rw [kindsT_rep, cnt_app, g2, Option.bind_some, cntD hk _ _ (by omega)]; congr 1; omega
      · cases hm : rs.length - 1 with
        | zero => exact ⟨_, acc, by simpa using g1, by show (if _ = (0 : Int) then _ else _) = _; rw [if_pos (by omega)]⟩
        | succ m => exact ⟨_, acc, by rw [kindsT_rep, foldL_app, g1, Option.bind_some]; exact foldLD hk m, by show (if _ = (0 : Int) then _ else _) = _; rw [if_pos (by omega)]⟩
      · rw [stripL_rep isK_1, g3]
      · simp; omega
end
end Go.Proofs.Ytabehgggahnopaa
