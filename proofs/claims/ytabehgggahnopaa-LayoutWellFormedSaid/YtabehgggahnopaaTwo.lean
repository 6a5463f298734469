/- Rows of the call's own whose elements lead to a set of blocks that is given; two such rows side by side. No program is named here. -/
import Derived.Test.YtabehgggahnopaaApp
namespace Go.Proofs.Ytabehgggahnopaa
open Go.RowKit
set_option linter.unusedVariables false

/-- v is a row of the call's own; its elements lead to T, which the row's block is not of. -/
def OwnX {α : Type} [Dat α] (w : World) (T : Nat → Prop) (base : Nat) (e : TypeId) (v : Value) (xs : List α) : Prop :=
  ∃ css : List (List Value), w.ownsRow base e (Dat.size α) v xs.length css.flatten ∧ css.length = xs.length ∧
    (∀ (i : Nat) (x : α) (cs : List Value), xs[i]? = some x → css[i]? = some cs → Dat.rd w T x cs) ∧ (∀ k, v.ownBlock = some k → ¬ T k) ∧ (∀ b, T b → b < w.heap.size)

section
variable {w w' : World} {S T T' : Nat → Prop} {base : Nat} {e : TypeId} {v : Value} {α : Type} [Dat α] {xs : List α}
theorem OwnX.nil (w : World) (T : Nat → Prop) (base : Nat) (e : TypeId) (hT : ∀ b, T b → b < w.heap.size) : OwnX w T base e (.slice none 0 0) ([] : List α) :=
  ⟨[], World.ownsRow_nil w base e _, rfl, fun i x cs h => by simp at h, fun k h => by simp [Value.ownBlock] at h, hT⟩
theorem OwnX.block (h : OwnX w T base e v xs) : ∀ k, v.ownBlock = some k → base ≤ k ∧ k < w.heap.size := by
  obtain ⟨css, h1, _⟩ := h
  exact h1.lt
theorem OwnX.mono (h : OwnX w T base e v xs) (hs : ∀ b, T b → T' b) (hv : ∀ k, v.ownBlock = some k → ¬ T' k) (hT : ∀ b, T' b → b < w.heap.size) : OwnX w T' base e v xs := by
  obtain ⟨css, h1, h2, h3, h4, h5⟩ := h
  exact ⟨css, h1, h2, fun i x cs hi hc => Dat.keep (fun _ _ _ => rfl) hs (h3 i x cs hi hc), hv, hT⟩
theorem OwnX.grown {row : Option Nat} (h : OwnX w T base e v xs) (hg : w.grownBy w' row) (hne : ∀ k, row = some k → v.ownBlock ≠ some k ∧ ¬ T k) : OwnX w' T base e v xs := by
  obtain ⟨css, h1, h2, h3, h4, h5⟩ := h
  refine ⟨css, h1.kept hg ?_, h2, fun i x cs hi hc => Dat.keep (fun p hp hlt => ?_) (fun _ hb => hb) (h3 i x cs hi hc), h4, fun b hb => Nat.lt_of_lt_of_le (h5 b hb) hg.size⟩
  · cases hv : v.ownBlock with
    | none => exact .inl rfl
    | some k => exact .inr (fun e => (hne k e.symm).1 hv)
  · exact World.cell?_of_block (hg.block p.block hlt (fun e => (hne _ e.symm).2 hp))
theorem OwnX.below {B : Nat} (h : OwnX w T base e v xs) (hb : Below B w w') (hB : w.heap.size ≤ B) : OwnX w' T base e v xs :=
  h.grown (row := none) ⟨hb.os, hb.tape, hb.output, hb.size, fun k hk _ => hb.block k (by omega)⟩ (fun k h => by cases h)
theorem OwnX.own (h : OwnX w T base e v xs) (hT : ∀ b, T b → S b ∨ base ≤ b) : Own w S base e v xs := by
  obtain ⟨css, h1, h2, h3, h4, h5⟩ := h
  exact ⟨css, h1, h2, fun i x cs hi hc => Dat.keep (fun _ _ _ => rfl) (fun b hb => ⟨hT b hb, fun e => h4 b e hb, h5 b hb⟩) (h3 i x cs hi hc)⟩
theorem OwnX.form (h : OwnX w T base e v xs) : ∃ A c, v = .slice A xs.length c ∧ xs.length ≤ c ∧ c ≤ 9223372036854775807 ∧ (xs = [] ∨ ∃ g, A = some ⟨g, 0, none⟩ ∧ base ≤ g ∧ g < w.heap.size) := by
  obtain ⟨css, h1, h2, _⟩ := h
  rcases h1.2 with ⟨rfl, hn⟩ | ⟨g, cap, cur, rfl, hg, hh, hnc, hcm, _⟩
  · refine ⟨none, 0, by rw [hn], by omega, by omega, .inl (List.eq_nil_of_length_eq_zero hn)⟩
  · exact ⟨_, cap, rfl, hnc, by simpa [maxLen] using hcm, .inr ⟨g, rfl, hg, (Array.getElem?_eq_some_iff.1 hh).1⟩⟩
end

section
variable {P : Program} {w : World} {T : Nat → Prop} {base : Nat} {α : Type} [Dat α]
theorem ownX_many {e : TypeId} {v v' : Value} {w' : World} {xs ys : List α} {css dss : List (List Value)}
    (h2 : css.length = xs.length) (h3 : ∀ (i : Nat) (x : α) (cs : List Value), xs[i]? = some x → css[i]? = some cs → Dat.rd w T x cs) (h4 : ∀ k, v.ownBlock = some k → ¬ T k) (h5 : ∀ b, T b → b < w.heap.size)
    (h2' : dss.length = ys.length) (h3' : ∀ (i : Nat) (x : α) (cs : List Value), ys[i]? = some x → dss[i]? = some cs → Dat.rd w T x cs)
    (hown : w'.ownsRow base e (Dat.size α) v' (xs.length + ys.length) (css.flatten ++ dss.flatten))
    (hg : w.grownBy w' v.ownBlock) (hat : v'.ownBlock = v.ownBlock ∨ v'.ownBlock = some w.heap.size) : OwnX w' T base e v' (xs ++ ys) := by
  have hkeep : ∀ {y : α} {ds : List Value}, Dat.rd w T y ds → Dat.rd w' T y ds := fun hy =>
    Dat.keep (fun p hp hlt => World.cell?_of_block (hg.block p.block hlt (fun e => h4 _ e.symm hp))) (fun b hb => hb) hy
  refine ⟨css ++ dss, by simpa using hown, by simp [h2, h2'], fun i y ds hi hd => ?_, fun k hk hTk => ?_, fun b hb => Nat.lt_of_lt_of_le (h5 b hb) hg.size⟩
  · rcases Nat.lt_or_ge i xs.length with hlt | hge
    · rw [List.getElem?_append_left hlt] at hi
      rw [List.getElem?_append_left (by omega)] at hd
      exact hkeep (h3 i y ds hi hd)
    · rw [List.getElem?_append_right hge] at hi
      rw [List.getElem?_append_right (by omega), h2] at hd
      exact hkeep (h3' _ y ds hi hd)
  · rcases hat with e | e
    · exact h4 k (e ▸ hk) hTk
    · rw [hk] at e; injection e with e; have := h5 k hTk; omega

/-- append of one element that lies at the head of a block of its own. -/
theorem run_ownX1 {t ty e : TypeId} {bytes : Nat} (hT : ElemT P α t e bytes) {v : Value} {xs : List α} {x : α} {cs : List Value} {g c : Nat} (hown : OwnX w T base e v xs)
    (hat : At w g 0 cs) (hrd : Dat.rd w T x cs) (hlen : (xs.length + 1) * bytes ≤ 140737488355328) (hmax : xs.length + 1 ≤ 9223372036854775807) (hbase : base ≤ w.heap.size) :
    ∃ v' w', (Builtin.append_ #[t, t] ty #[v, .slice (some ⟨g, 0, none⟩) 1 c]).run P w = .ok v' w' ∧ OwnX w' T base e v' (xs ++ [x]) ∧ w.grownBy w' v.ownBlock ∧ (v'.ownBlock = v.ownBlock ∨ v'.ownBlock = some w.heap.size) := by
  obtain ⟨i, z, ht, hi, hz, hsize, hby, hzs⟩ := hT
  obtain ⟨css, h1, h2, h3, h4, h5⟩ := hown
  have hcl := Dat.len hrd
  obtain ⟨v', w', hr, ho, hg, _, h6⟩ := run_append_own_at (P := P) w base t ty e i z (Dat.size α) bytes ht hi hz hsize hby hzs Dat.pos v xs.length css.flatten h1 ⟨g, 0, none⟩ 1 c cs (by omega)
    (by intro j u hu; have h := hat j u hu; have hadd : (⟨g, 0, none⟩ : Addr).add j = ⟨g, 0 + j, none⟩ := by unfold Addr.add; split <;> simp_all
        rw [hadd]; exact h) (Dat.one hrd) (by simpa [maxLen] using hmax) hlen hbase
  exact ⟨v', w', hr, ownX_many (ys := [x]) (dss := [cs]) h2 h3 h4 h5 rfl (rd_one hrd) (by simpa using ho) hg h6, hg, h6⟩
end

theorem At.alloc {w : World} {b o : Nat} {cs : List Value} (h : At w b o cs) (hl : 0 < cs.length) (ob : Obj) : At (w.alloc ob) b o cs :=
  h.keep (fun p hp => ((Below.refl w.heap.size w).alloc (Nat.le_refl _) ob).cell (hp ▸ h.lt hl))
theorem At.grown {w w' : World} {b o : Nat} {cs : List Value} {row : Option Nat} (h : At w b o cs) (hl : 0 < cs.length) (hg : w.grownBy w' row) (hne : some b ≠ row) : At w' b o cs :=
  h.keep (fun p hp => World.cell?_of_block (hg.block p.block (hp ▸ h.lt hl) (hp ▸ hne)))
theorem At.drew {w : World} {b o : Nat} {cs : List Value} (h : At w b o cs) : At w.drew b o cs := h
theorem At.new1 (w : World) (cs : List Value) (t : TypeId) (ob : Obj) : At ((w.alloc ob).alloc (.cells cs.toArray t)) (w.heap.size + 1) 0 cs := by
  have h := At.new (w.alloc ob) cs t
  rwa [show (w.alloc ob).heap.size = w.heap.size + 1 from by simp] at h
theorem Els.grown {α : Type} [Dat α] {w w' : World} {S : Nat → Prop} {xs : List α} {A : Option Addr} {row : Option Nat} (h : Els w S xs A) (hg : w.grownBy w' row) (hne : ∀ k, row = some k → ¬ S k) : Els w' S xs A :=
  h.keep (fun p hp hlt => World.cell?_of_block (hg.block p.block hlt (fun e => hne _ e.symm hp))) (fun _ hb => hb)

/-! ### Two rows side by side -/
def T2 (S : Nat → Prop) (B : Nat) (v1 v2 : Value) (w : World) (b : Nat) : Prop := (S b ∨ B ≤ b) ∧ v1.ownBlock ≠ some b ∧ v2.ownBlock ≠ some b ∧ b < w.heap.size
def Two {α β : Type} [Dat α] [Dat β] (w : World) (S : Nat → Prop) (B : Nat) (e1 e2 : TypeId) (v1 v2 : Value) (xs : List α) (ys : List β) : Prop :=
  OwnX w (T2 S B v1 v2 w) B e1 v1 xs ∧ OwnX w (T2 S B v1 v2 w) B e2 v2 ys ∧ ∀ k, v1.ownBlock = some k → v2.ownBlock ≠ some k
section
variable {w w' : World} {S : Nat → Prop} {B : Nat} {e1 e2 : TypeId} {v1 v2 : Value} {α β : Type} [Dat α] [Dat β] {xs : List α} {ys : List β}
theorem T2.swap {b : Nat} (h : T2 S B v1 v2 w b) : T2 S B v2 v1 w b := ⟨h.1, h.2.2.1, h.2.1, h.2.2.2⟩
theorem T2.below {b : Nat} (h : T2 S B v1 v2 w b) (hs : w.heap.size ≤ w'.heap.size) : T2 S B v1 v2 w' b := ⟨h.1, h.2.1, h.2.2.1, Nat.lt_of_lt_of_le h.2.2.2 hs⟩
theorem Two.swap (h : Two w S B e1 e2 v1 v2 xs ys) : Two w S B e2 e1 v2 v1 ys xs :=
  ⟨h.2.1.mono (fun _ => T2.swap) (fun k hk hb => hb.2.1 hk) (fun _ hb => hb.2.2.2), h.1.mono (fun _ => T2.swap) (fun k hk hb => hb.2.2.1 hk) (fun _ hb => hb.2.2.2), fun k h1 h2 => h.2.2 k h2 h1⟩
theorem Two.nil (w : World) (S : Nat → Prop) (B : Nat) (e1 e2 : TypeId) : Two w S B e1 e2 (.slice none 0 0) (.slice none 0 0) ([] : List α) ([] : List β) :=
  ⟨OwnX.nil _ _ _ _ (fun _ hb => hb.2.2.2), OwnX.nil _ _ _ _ (fun _ hb => hb.2.2.2), fun k h => by simp [Value.ownBlock] at h⟩
theorem Two.grown {row : Option Nat} (h : Two w S B e1 e2 v1 v2 xs ys) (hg : w.grownBy w' row) (hne : ∀ k, row = some k → ¬ (S k ∨ B ≤ k)) : Two w' S B e1 e2 v1 v2 xs ys := by
  have hr1 : ∀ k, row = some k → v1.ownBlock ≠ some k := fun k hk e => hne k hk (.inr (h.1.block k e).1)
  have hr2 : ∀ k, row = some k → v2.ownBlock ≠ some k := fun k hk e => hne k hk (.inr (h.2.1.block k e).1)
  exact ⟨(h.1.grown hg fun k hk => ⟨hr1 k hk, fun hb => hne k hk hb.1⟩).mono (fun _ hb => hb.below hg.size) (fun k hk hb => hb.2.1 hk) (fun _ hb => hb.2.2.2),
    (h.2.1.grown hg fun k hk => ⟨hr2 k hk, fun hb => hne k hk hb.1⟩).mono (fun _ hb => hb.below hg.size) (fun k hk hb => hb.2.2.1 hk) (fun _ hb => hb.2.2.2), h.2.2⟩
theorem Two.below {C : Nat} (h : Two w S B e1 e2 v1 v2 xs ys) (hb : Below C w w') (hC : w.heap.size ≤ C) : Two w' S B e1 e2 v1 v2 xs ys :=
  h.grown (row := none) ⟨hb.os, hb.tape, hb.output, hb.size, fun k hk _ => hb.block k (by omega)⟩ (fun k h => by cases h)
theorem Two.alloc (h : Two w S B e1 e2 v1 v2 xs ys) (o : Obj) : Two (w.alloc o) S B e1 e2 v1 v2 xs ys := h.below ((Below.refl w.heap.size w).alloc (Nat.le_refl _) o) (Nat.le_refl _)
theorem Two.drew (h : Two w S B e1 e2 v1 v2 xs ys) : Two w.drew S B e1 e2 v1 v2 xs ys := h.below ((Below.refl w.heap.size w).drew) (Nat.le_refl _)
theorem Two.drewN (h : Two w S B e1 e2 v1 v2 xs ys) (n : Nat) : Two (w.drewN n) S B e1 e2 v1 v2 xs ys := h.below (bdrewN (Below.refl w.heap.size w)) (Nat.le_refl _)
theorem Two.set_ (h : Two w S B e1 e2 v1 v2 xs ys) {p : Addr} (hp : ¬ (S p.block ∨ B ≤ p.block)) (u : Value) : Two (w.setCell p u) S B e1 e2 v1 v2 xs ys :=
  h.grown (row := some p.block) ⟨rfl, rfl, rfl, by simp [World.setCell], fun k _ hk => Below.heap_setCell _ _ _ _ (fun e => hk (by rw [e]))⟩ (fun k hk => by cases hk; exact hp)
/-- What an append to the first row leaves. -/
theorem Two.pushed {v1' : Value} {xs' : List α} (h : Two w S B e1 e2 v1 v2 xs ys) (h1 : OwnX w' (T2 S B v1 v2 w) B e1 v1' xs') (hg : w.grownBy w' v1.ownBlock) (hat : v1'.ownBlock = v1.ownBlock ∨ v1'.ownBlock = some w.heap.size) : Two w' S B e1 e2 v1' v2 xs' ys := by
  have h2 := h.2.1.grown hg fun k hk => ⟨fun e => h.2.2 k hk e, fun hb => hb.2.1 hk⟩
  have hd : ∀ k, v1'.ownBlock = some k → v2.ownBlock ≠ some k := by
    intro k hk e
    rcases hat with e' | e'
    · exact h.2.2 k (e' ▸ hk) e
    · rw [hk] at e'; injection e' with e'; have := (h.2.1.block k e).2; omega
  have hsub : ∀ b, T2 S B v1 v2 w b → T2 S B v1' v2 w' b := fun b hb => ⟨hb.1, (by
    rcases hat with e' | e'
    · rw [e']; exact hb.2.1
    · rw [e']; intro e; injection e with e; have := hb.2.2.2; omega), hb.2.2.1, Nat.lt_of_lt_of_le hb.2.2.2 hg.size⟩
  exact ⟨h1.mono hsub (fun k hk hb => hb.2.1 hk) (fun _ hb => hb.2.2.2), h2.mono hsub (fun k hk hb => hb.2.2.1 hk) (fun _ hb => hb.2.2.2), hd⟩
/-- Both rows, for a reader. -/
theorem Two.vl1 (h : Two w S B e1 e2 v1 v2 xs ys) : Vl w (fun b => (S b ∨ B ≤ b) ∧ b < w.heap.size) xs v1 := (h.1.own (S := S) (fun _ hb => hb.1)).vl
theorem Two.vl2 (h : Two w S B e1 e2 v1 v2 xs ys) : Vl w (fun b => (S b ∨ B ≤ b) ∧ b < w.heap.size) ys v2 := (h.2.1.own (S := S) (fun _ hb => hb.1)).vl
end

section
variable {P : Program} (w : World) {S : Nat → Prop} {B : Nat} {α β : Type} [Dat α] [Dat β]
theorem wp_two1 {o : Oper} {a : Act} {K : Act → World → Prop} {Q : Exit → Act → World → Prop} (s xo : Operand) {t e1 e2 : TypeId} {bytes : Nat} (hT : ElemT P α t e1 bytes)
    (ho : o.op = .call { callee := .builtin .append, args := #[s, xo], argTypes := #[t, t] })
    {v1 v2 : Value} {xs : List α} {ys : List β} (hs : a.eval s = v1) (hown : Two w S B e1 e2 v1 v2 xs ys) (x : α) (cs : List Value) {g c : Nat} (hx : a.eval xo = .slice (some ⟨g, 0, none⟩) 1 c)
    (hat : At w g 0 cs) (hrd : Dat.rd w (T2 S B v1 v2 w) x cs) (hlen : (xs.length + 1) * bytes ≤ 140737488355328) (hmax : xs.length + 1 ≤ 9223372036854775807) (hbase : B ≤ w.heap.size)
    (h : ∀ v' w', Two w' S B e1 e2 v' v2 (xs ++ [x]) ys → w.grownBy w' v1.ownBlock → (v'.ownBlock = v1.ownBlock ∨ v'.ownBlock = some w.heap.size) → K (a.put o.dst v') w') : o.wp P a w K Q := by
  obtain ⟨v', w', hrun, h2, h3, h4⟩ := run_ownX1 (ty := o.type) (c := c) hT hown.1 hat hrd hlen hmax hbase
  unfold Oper.wp execOp
  simp only [ho, resolve, invoke, builtin, Sem.run_bind, Sem.run_pure, Result.andThen_ok, List.map_toArray, List.map_cons, List.map_nil, hs, hx, hrun]
  exact h v' w' (hown.pushed h2 h3 h4) h3 h4
theorem wpList_two1 {ops : Array Oper} {rest : List Oper} {o : Oper} {a : Act} {Q : Exit → Act → World → Prop} (hgd : o.guard = none) (s xo : Operand) {t e1 e2 : TypeId} {bytes : Nat} (hT : ElemT P α t e1 bytes)
    (ho : o.op = .call { callee := .builtin .append, args := #[s, xo], argTypes := #[t, t] })
    {v1 v2 : Value} {xs : List α} {ys : List β} (hs : a.eval s = v1) (hown : Two w S B e1 e2 v1 v2 xs ys) (x : α) (cs : List Value) {g c : Nat} (hx : a.eval xo = .slice (some ⟨g, 0, none⟩) 1 c)
    (hat : At w g 0 cs) (hrd : Dat.rd w (T2 S B v1 v2 w) x cs) (hlen : (xs.length + 1) * bytes ≤ 140737488355328) (hmax : xs.length + 1 ≤ 9223372036854775807) (hbase : B ≤ w.heap.size)
    (h : ∀ v' w', Two w' S B e1 e2 v' v2 (xs ++ [x]) ys → w.grownBy w' v1.ownBlock → (v'.ownBlock = v1.ownBlock ∨ v'.ownBlock = some w.heap.size) → wpList P ops Q rest (a.put o.dst v') w') : wpList P ops Q (o :: rest) a w :=
  wpList_plain hgd fun _ hK => wp_two1 w s xo hT ho hs hown x cs hx hat hrd hlen hmax hbase fun v' w' h2 h3 h4 => hK _ _ (h v' w' h2 h3 h4)
theorem step_two1 {ops : Array Oper} {o : Oper} {a : Act} {K : Act → World → Prop} {Q : Exit → Act → World → Prop} {E : Prop} (hgd : o.guard = none) (s xo : Operand) {t e1 e2 : TypeId} {bytes : Nat} (hT : ElemT P α t e1 bytes)
    (ho : o.op = .call { callee := .builtin .append, args := #[s, xo], argTypes := #[t, t] })
    {v1 v2 : Value} {xs : List α} {ys : List β} (hs : a.eval s = v1) (hown : Two w S B e1 e2 v1 v2 xs ys) (x : α) (cs : List Value) {g c : Nat} (hx : a.eval xo = .slice (some ⟨g, 0, none⟩) 1 c)
    (hat : At w g 0 cs) (hrd : Dat.rd w (T2 S B v1 v2 w) x cs) (hlen : (xs.length + 1) * bytes ≤ 140737488355328) (hmax : xs.length + 1 ≤ 9223372036854775807) (hbase : B ≤ w.heap.size)
    (h : ∀ v' w', Two w' S B e1 e2 v' v2 (xs ++ [x]) ys → w.grownBy w' v1.ownBlock → (v'.ownBlock = v1.ownBlock ∨ v'.ownBlock = some w.heap.size) → K (a.put o.dst v') w') :
    if Region.wanted o (yielded ops a.tmps) = true then Oper.wp P o a w K Q else E := by
  have hw : Region.wanted o (yielded ops a.tmps) = true := by simp [Region.wanted, hgd]
  rw [if_pos hw]
  exact wp_two1 w s xo hT ho hs hown x cs hx hat hrd hlen hmax hbase h
end
end Go.Proofs.Ytabehgggahnopaa
