/- A slice of rows of bools that the call itself has made: its memory; rows made one by one. -/
import Derived.Test.YtagcnhiinmiklaaDoorQFirstMake
import Derived.Test.YtagcnhiinmiklaaDoorQp1
namespace Go.Proofs.YtagcnhiinmiklaaDoor
open Go.RowKit
set_option linter.unusedVariables false

structure RowsM (w : World) (bf : Nat) (bs : List Nat) (m n cf : Nat) (f : List (List Bool)) : Prop where
  flen : f.length = n
  blen : bs.length = n
  outer : ∀ (i b : Nat), bs[i]? = some b → w.cell? ⟨bf, i, none⟩ = some (rowSl b m)
  rows : ∀ (i b : Nat) (row : List Bool), bs[i]? = some b → f[i]? = some row → Blk' w b 4 (bcells row) ∧ row.length = m
  nodup : (bf :: bs).Nodup
  bflt : bf < w.heap.size
  cap : n ≤ cf ∧ cf ≤ 9223372036854775807
section
variable {w w' : World} {bf m n cf : Nat} {bs : List Nat} {f : List (List Bool)}
theorem RowsM.kept {X : Nat → Prop} (h : RowsM w bf bs m n cf f) (k : Kept X w w') (hx : ∀ b ∈ bf :: bs, ¬ X b) : RowsM w' bf bs m n cf f :=
  ⟨h.flen, h.blen, fun i b hb => (k.cell (p := ⟨bf, i, none⟩) h.bflt (hx _ (by simp))).trans (h.outer i b hb),
    fun i b row hb hr => ⟨(h.rows i b row hb hr).1.kept k (hx _ (by simp [List.mem_of_getElem? hb])), (h.rows i b row hb hr).2⟩, h.nodup, Nat.lt_of_lt_of_le h.bflt k.size, h.cap⟩
theorem RowsM.below (h : RowsM w bf bs m n cf f) (k : Below w.heap.size w w') : RowsM w' bf bs m n cf f :=
  h.kept (Kept.of_below (fun _ => False) k) (fun _ _ h => h)
theorem RowsM.lt (h : RowsM w bf bs m n cf f) : ∀ b ∈ bf :: bs, b < w.heap.size := by
  intro b hb
  rcases List.mem_cons.1 hb with rfl | hb
  · exact h.bflt
  obtain ⟨i, hi, rfl⟩ := List.getElem_of_mem hb
  have h1 : i < f.length := by have := h.blen; have := h.flen; omega
  exact (h.rows i _ _ (List.getElem?_eq_getElem hi) (List.getElem?_eq_getElem h1)).1.lt
theorem RowsM.setRow (h : RowsM w bf bs m n cf f) {i bi : Nat} {row' : List Bool} (hi : bs[i]? = some bi) (k : Kept (fun b => b = bi) w w') (hb : Blk' w' bi 4 (bcells row')) (hl : row'.length = m) : RowsM w' bf bs m n cf (f.set i row') := by
  have hm := List.mem_of_getElem? hi
  have hnd := h.nodup
  simp only [List.nodup_cons] at hnd
  obtain ⟨n6, n7⟩ := hnd
  refine ⟨by simp [h.flen], h.blen, fun j b hb' => (k.cell (p := ⟨bf, j, none⟩) h.bflt (fun e => n6 (by have e' : bf = bi := e; exact e' ▸ hm))).trans (h.outer j b hb'), fun j b row hjb hjr => ?_, h.nodup, Nat.lt_of_lt_of_le h.bflt k.size, h.cap⟩
  rw [List.getElem?_set] at hjr
  split at hjr
  · rename_i e
    subst e
    split at hjr
    · injection hjr with hjr
      subst hjr
      rw [hi] at hjb
      injection hjb with hjb
      subst hjb
      exact ⟨hb, hl⟩
    · cases hjr
  · rename_i e
    have hr := h.rows j b row hjb hjr
    refine ⟨hr.1.kept k (fun e' => ?_), hr.2⟩
    subst e'
    obtain ⟨q1, q2⟩ := List.getElem?_eq_some_iff.1 hi
    obtain ⟨q3, q4⟩ := List.getElem?_eq_some_iff.1 hjb
    exact e ((List.getElem_inj n7).1 (q2.trans q4.symm))
end

theorem wp_row1 {P : Program} {w : World} {o : Oper} {a : Act} {K : Act → World → Prop} {Q : Exit → Act → World → Prop} {base : Nat} {α : Type} [Dat α] (s xo : Operand) {t e : TypeId} {bytes : Nat} (hT : ElemT P α t e bytes) (hsz : Dat.size α = 1)
    (ho : o.op = .call { callee := .builtin .append, args := #[s, xo], argTypes := #[t, t] })
    {v : Value} {n : Nat} {xs : List Value} (hs : a.eval s = v) (hown : w.ownsRow base e 1 v n xs) {u : Value} {g c : Nat} (hx : a.eval xo = .slice (some ⟨g, 0, none⟩) 1 c) (hat : w.cell? ⟨g, 0, none⟩ = some u) (hu : u.oneCell' = true)
    (hlen : (n + 1) * bytes ≤ 140737488355328) (hmax : n + 1 ≤ 9223372036854775807) (hbase : base ≤ w.heap.size)
    (h : ∀ v' w', w'.ownsRow base e 1 v' (n + 1) (xs ++ [u]) → w.grownBy w' v.ownBlock → (v'.ownBlock = v.ownBlock ∨ v'.ownBlock = some w.heap.size) → K (a.put o.dst v') w') : o.wp P a w K Q := by
  obtain ⟨i, z, ht, hi, hz, hsize, hby, hzs⟩ := hT
  rw [hsz] at hsize hzs
  obtain ⟨v', w', hrun, h2, h3, _, h4⟩ := run_append_own_at (P := P) w base t o.type e i z 1 bytes ht hi hz hsize hby hzs (by decide) v n xs hown ⟨g, 0, none⟩ 1 c [u] rfl
    (by intro j u' hj; match j with
        | 0 => simp at hj; subst hj; simpa [Addr.add] using hat
        | j + 1 => simp at hj) (by intro u' hu'; simp at hu'; subst hu'; exact hu) (by simpa [maxLen] using hmax) hlen hbase
  unfold Oper.wp execOp
  simp only [ho, resolve, invoke, builtin, Sem.run_bind, Sem.run_pure, Result.andThen_ok, List.map_toArray, List.map_cons, List.map_nil, hs, hx, hrun]
  exact h v' w' h2 h3 h4
theorem wpList_row1 {P : Program} {w : World} {ops : Array Oper} {rest : List Oper} {o : Oper} {a : Act} {Q : Exit → Act → World → Prop} {base : Nat} {α : Type} [Dat α] (hgd : o.guard = none) (s xo : Operand) {t e : TypeId} {bytes : Nat} (hT : ElemT P α t e bytes) (hsz : Dat.size α = 1)
    (ho : o.op = .call { callee := .builtin .append, args := #[s, xo], argTypes := #[t, t] })
    {v : Value} {n : Nat} {xs : List Value} (hs : a.eval s = v) (hown : w.ownsRow base e 1 v n xs) {u : Value} {g c : Nat} (hx : a.eval xo = .slice (some ⟨g, 0, none⟩) 1 c) (hat : w.cell? ⟨g, 0, none⟩ = some u) (hu : u.oneCell' = true)
    (hlen : (n + 1) * bytes ≤ 140737488355328) (hmax : n + 1 ≤ 9223372036854775807) (hbase : base ≤ w.heap.size)
    (h : ∀ v' w', w'.ownsRow base e 1 v' (n + 1) (xs ++ [u]) → w.grownBy w' v.ownBlock → (v'.ownBlock = v.ownBlock ∨ v'.ownBlock = some w.heap.size) → wpList P ops Q rest (a.put o.dst v') w') : wpList P ops Q (o :: rest) a w :=
  wpList_plain hgd fun _ hK => wp_row1 s xo hT hsz ho hs hown hx hat hu hlen hmax hbase fun v' w' h2 h3 h4 => hK _ _ (h v' w' h2 h3 h4)

/-- k rows of a table are made. -/
def RowL (W : World) (rows : List (List Bool)) (m : Nat) (v : Value) (k : Nat) (bs : List Nat) (wr : World) : Prop :=
  k ≤ rows.length ∧ bs.length = k ∧ Below W.heap.size W wr ∧ wr.ownsRow W.heap.size 66 1 v k (bs.map fun b => rowSl b m) ∧
    (∀ (i b : Nat) (row : List Bool), bs[i]? = some b → rows[i]? = some row → Blk' wr b 4 (bcells row) ∧ row.length = m) ∧ (∀ b ∈ bs, b < wr.heap.size ∧ W.heap.size ≤ b ∧ v.ownBlock ≠ some b) ∧ bs.Nodup
theorem RowL.start (W : World) (rows : List (List Bool)) (m : Nat) : RowL W rows m (.slice none 0 0) 0 [] W :=
  ⟨Nat.zero_le _, rfl, Below.refl _ _, World.ownsRow_nil _ _ _ _, by simp, by simp, List.nodup_nil⟩
/-- One more row: R its block, of wm; then the append. -/
theorem RowL.next {W wo wm w' : World} {rows : List (List Bool)} {m k R : Nat} {v v' : Value} {row : List Bool} {bs : List Nat} (h : RowL W rows m v k bs wo) (hr : rows[k]? = some row) (hb : Below wo.heap.size wo wm) (hR : Blk' wm R 4 (bcells row)) (hRl : row.length = m) (hR0 : wo.heap.size ≤ R)
    (hrow : w'.ownsRow W.heap.size 66 1 v' (k + 1) ((bs.map fun b => rowSl b m) ++ [rowSl R m])) (hg : wm.grownBy w' v.ownBlock) (hat : v'.ownBlock = v.ownBlock ∨ v'.ownBlock = some wm.heap.size) : RowL W rows m v' (k + 1) (bs ++ [R]) w' := by
  obtain ⟨h1, h2, h3, h4, h5, h6, h7⟩ := h
  have hV : ∀ g, v.ownBlock = some g → W.heap.size ≤ g ∧ g < wo.heap.size := h4.lt
  have hsm := hb.size
  have hRlt := hR.lt
  have hown : ∀ b, (b ∈ bs ∨ b = R) → v'.ownBlock ≠ some b := fun b hbb e => by
    rcases hat with q | q
    · rw [q] at e
      rcases hbb with hbb | hbb
      · exact (h6 b hbb).2.2 e
      · have := (hV b e).2; omega
    · rw [q] at e
      injection e with e
      rcases hbb with hbb | hbb
      · have := (h6 b hbb).1; omega
      · omega
  have hkm : Kept (fun b => v.ownBlock = some b) wo w' := (Kept.of_below _ hb).grown hg (fun k hk => .inl hk)
  refine ⟨(List.getElem?_eq_some_iff.1 hr).1, by simp [h2], h3.trans (hkm.to_below (fun b hbb => (hV b hbb).1) h3.size), by rw [List.map_append]; exact hrow, fun i b row' hi hr' => ?_, fun b hbb => ?_, ?_⟩
  · rcases Nat.lt_or_ge i bs.length with hlt | hge
    · rw [List.getElem?_append_left hlt] at hi
      exact ⟨(h5 i b row' hi hr').1.kept hkm (h6 b (List.mem_of_getElem? hi)).2.2, (h5 i b row' hi hr').2⟩
    · rw [List.getElem?_append_right hge] at hi
      have e1 : i - bs.length = 0 := by
        have := (List.getElem?_eq_some_iff.1 hi).1
        simp at this; omega
      rw [e1] at hi
      simp at hi
      subst hi
      have e2 : i = k := by omega
      subst e2
      rw [hr] at hr'
      injection hr' with hr'
      subst hr'
      exact ⟨hR.grown hg (fun e => by have := (hV _ e.symm).2; omega), hRl⟩
  · rcases List.mem_append.1 hbb with hbb | hbb
    · exact ⟨Nat.lt_of_lt_of_le (h6 b hbb).1 hkm.size, (h6 b hbb).2.1, hown b (.inl hbb)⟩
    · simp at hbb
      subst hbb
      exact ⟨Nat.lt_of_lt_of_le hRlt hg.size, by have := h3.size; omega, hown _ (.inr rfl)⟩
  · rw [List.nodup_append]
    exact ⟨h7, by simp, fun a ha b hb' e => by simp at hb'; subst hb'; have := (h6 a ha).1; omega⟩
theorem RowL.done {W wo : World} {rows : List (List Bool)} {m n : Nat} {v : Value} (hn : 1 ≤ n) (hl : rows.length = n) {bs : List Nat} (h : RowL W rows m v n bs wo) : ∃ bf cf, v = .slice (some ⟨bf, 0, none⟩) n cf ∧ RowsM wo bf bs m n cf rows ∧ Below W.heap.size W wo ∧ (∀ b ∈ bf :: bs, W.heap.size ≤ b) := by
  obtain ⟨h1, h2, h3, h4, h5, h6, h7⟩ := h
  obtain ⟨_, k2⟩ := h4
  rcases k2 with ⟨_, k3⟩ | ⟨bf, cap, cur, rfl, k4, k5, k6, k7, k8, k9⟩
  · omega
  · have hcell : ∀ (i b : Nat), bs[i]? = some b → wo.cell? ⟨bf, i, none⟩ = some (rowSl b m) := fun i b hib => by
      rw [cell_of_row wo bf i cur 66 (0, 0) k5]
      have hl : i < bs.length := (List.getElem?_eq_some_iff.1 hib).1
      have h10 : (bs.map fun b => rowSl b m)[i]? = some (rowSl b m) := by simp [hib]
      rw [← k9, List.getElem?_take] at h10
      rw [if_pos (by omega)] at h10
      rw [← Array.getElem?_toList]
      exact h10
    refine ⟨bf, cap, rfl, ⟨hl, h2, hcell, h5, ?_, (Array.getElem?_eq_some_iff.1 k5).1, k6, by simpa [maxLen] using k7⟩, h3, fun b hb => ?_⟩
    · rw [List.nodup_cons]
      exact ⟨fun hm => (h6 bf hm).2.2 rfl, h7⟩
    · rcases List.mem_cons.1 hb with rfl | hb
      · exact k4
      · exact (h6 b hb).2.1
end Go.Proofs.YtagcnhiinmiklaaDoor
