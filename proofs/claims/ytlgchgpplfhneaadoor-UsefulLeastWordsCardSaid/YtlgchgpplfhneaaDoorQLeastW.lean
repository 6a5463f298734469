/- Rows of words in memory, for the tables of the least words. -/
import Derived.Test.YtlgchgpplfhneaaDoorQCmpInts
import Derived.Test.YtlgchgpplfhneaaDoorQp1
import Derived.Test.YtlgchgpplfhneaaDoorQCloneInt
import Derived.BigRegion
namespace Go.Proofs.YtlgchgpplfhneaaDoor
open Go.RowKit
set_option linter.unusedVariables false

/-- A row of words: each is read off blocks from B on. -/
def RowsW (w : World) (OB n B : Nat) (W : List (List Int)) : Prop :=
  ∃ cur, Blk' w OB 22 cur ∧ cur.size = n ∧ ∀ (m : Nat) (u : List Int), W[m]? = some u → ∃ (A : Option Addr) (c : Nat), cur[m]? = some (.slice A u.length c) ∧ u.length ≤ c ∧ c ≤ 9223372036854775807 ∧ Els w (fun b => B ≤ b ∧ b < w.heap.size) u A
theorem RowsW.lt {w : World} {OB n B : Nat} {W : List (List Int)} (h : RowsW w OB n B W) : OB < w.heap.size := by obtain ⟨_, hb, _⟩ := h; exact hb.lt
theorem RowsW.kept {w w' : World} {X : Nat → Prop} {OB n B : Nat} {W : List (List Int)} (h : RowsW w OB n B W) (k : Kept X w w') (hO : ¬ X OB) (hX : ∀ b, X b → b < B ∨ w.heap.size ≤ b) : RowsW w' OB n B W := by
  obtain ⟨cur, hb, hs, hr⟩ := h
  refine ⟨cur, hb.kept k hO, hs, fun m u hu => ?_⟩
  obtain ⟨A, c, h1, h2, h3, h4⟩ := hr m u hu
  exact ⟨A, c, h1, h2, h3, (h4.kept k (fun b hb e => by have h5 := hX b e; have h6 := hb.1; have h7 := hb.2; omega)).keep (fun _ _ _ => rfl) (fun b hb => ⟨hb.1, by have := hb.2; have := k.size; omega⟩)⟩
theorem RowsW.below {w w' : World} {OB n B : Nat} {W : List (List Int)} (h : RowsW w OB n B W) (k : Below w.heap.size w w') : RowsW w' OB n B W :=
  h.kept (Kept.of_below (fun _ => False) k) (fun e => e) (fun _ e => e.elim)
theorem RowsW.at_ {w : World} {OB n B : Nat} {W : List (List Int)} (h : RowsW w OB n B W) {m : Nat} {u : List Int} (hu : W[m]? = some u) : ∃ (A : Option Addr) (c : Nat), w.cell? ⟨OB, m, none⟩ = some (.slice A u.length c) ∧ u.length ≤ c ∧ c ≤ 9223372036854775807 ∧ Els w (fun b => B ≤ b ∧ b < w.heap.size) u A := by
  obtain ⟨cur, hb, hs, hr⟩ := h
  obtain ⟨A, c, h1, h2, h3, h4⟩ := hr m u hu
  exact ⟨A, c, by rw [hb.cell]; exact h1, h2, h3, h4⟩
theorem RowsW.frozen {w : World} {OB n B : Nat} {W : List (List Int)} (h : RowsW w OB n B W) (m : Nat) : w.frozen? ⟨OB, m, none⟩ = false := by obtain ⟨_, hb, _⟩ := h; exact hb.frozen m
theorem RowsW.set_ {w : World} {OB n B : Nat} {W : List (List Int)} (h : RowsW w OB n B W) (hOB : OB < B) {m : Nat} (hm : m < n) {u : List Int} {A : Option Addr} {c : Nat} (h1 : u.length ≤ c) (h2 : c ≤ 9223372036854775807) (h3 : Els w (fun b => B ≤ b ∧ b < w.heap.size) u A) : RowsW (w.setCell ⟨OB, m, none⟩ (.slice A u.length c)) OB n B (W.set m u) := by
  obtain ⟨cur, hb, hs, hr⟩ := h
  have k : Kept (fun b => b = OB) w (w.setCell ⟨OB, m, none⟩ (.slice A u.length c)) := (Kept.refl (fun b => b = OB) w).setCell (p := ⟨OB, m, none⟩) (.inl rfl) _
  have ke : ∀ {x : List Int} {Ax : Option Addr}, Els w (fun b => B ≤ b ∧ b < w.heap.size) x Ax → Els (w.setCell ⟨OB, m, none⟩ (.slice A u.length c)) (fun b => B ≤ b ∧ b < (w.setCell ⟨OB, m, none⟩ (.slice A u.length c)).heap.size) x Ax := fun hx =>
    (hx.kept k (fun b hb (e : b = OB) => by have := hb.1; omega)).keep (fun _ _ _ => rfl) (fun b hb => ⟨hb.1, by have := hb.2; have := k.size; omega⟩)
  refine ⟨_, hb.set_ m _, by simp [hs], fun j x hx => ?_⟩
  by_cases e : m = j
  · subst e
    have hl : m < W.length := by have := (List.getElem?_eq_some_iff.1 hx).1; simpa using this
    rw [List.getElem?_set_self hl] at hx
    injection hx with hx
    subst hx
    exact ⟨A, c, by simp [Array.getElem?_setIfInBounds, hs, hm], h1, h2, ke h3⟩
  · rw [List.getElem?_set_ne e] at hx
    obtain ⟨A', c', g1, g2, g3, g4⟩ := hr j x hx
    exact ⟨A', c', by rw [Array.getElem?_setIfInBounds_ne e]; exact g1, g2, g3, ke g4⟩
theorem mkWords (n : Nat) (hn : n ≤ 1000000) (W : World) : (Instr.makeSlice 74 (.int .i64 (n : Int)) (.int .i64 (n : Int))).run Tryd.prog W = .ok (.slice (some ⟨W.heap.size, 0, none⟩) n n) (W.alloc (.cells (List.replicate n (Value.slice none 0 0)).toArray 22)) := by
  obtain ⟨i0, hi, hz0, hz1, hz2⟩ := info_parts infoInts
  have h := run_makeSlice (P := Tryd.prog) W 74 22 i0 (.slice none 0 0) Tryd.underlying74 hi hz0 .i64 .i64 (n : Int) (n : Int) (by omega) (Int.le_refl _) (by rw [hz1]; simp; omega) (by rw [hz2]; omega) (by omega)
  rw [h, hz1]
  simp only [Int.toNat_natCast]
  have e : madeCells (Value.slice none 0 0).cells (n * 1) = (List.replicate n (Value.slice none 0 0)).toArray := by
    apply Array.ext'
    show (madeCells #[Value.slice none 0 0] (n * 1)).toList = _
    rw [toList_madeCells_one]
    simp
  rw [e]
theorem RowsW.made {w : World} {OB n B : Nat} (hb : Blk' w OB 22 (List.replicate n (Value.slice none 0 0)).toArray) : RowsW w OB n B (List.replicate n []) := by
  refine ⟨_, hb, by simp, fun m u hu => ?_⟩
  rw [List.getElem?_replicate] at hu
  split at hu
  · rename_i h
    injection hu with hu
    subst hu
    exact ⟨none, 0, by simp [h], Nat.le_refl _, by omega, fun e => absurd rfl e⟩
  · simp at hu

/-- The words known so far are of few letters. -/
def In8W (W : List (List Int)) : Prop := ∀ u ∈ W, In8 u ∧ u.length ≤ 2000
theorem In8W.init (n : Nat) : In8W (List.replicate n []) := fun u hu => by
  rw [List.mem_replicate] at hu
  rw [hu.2]
  exact ⟨fun x hx => by simp at hx, by simp⟩
theorem In8W.getD {W : List (List Int)} (h : In8W W) (m : Nat) : In8 (W.getD m []) ∧ (W.getD m []).length ≤ 2000 := by
  rw [List.getD_eq_getElem?_getD]
  cases hm : W[m]? with
  | none => exact ⟨fun x hx => by simp at hx, by simp⟩
  | some u => exact h u (List.mem_of_getElem? hm)
theorem In8W.cat {W : List (List Int)} (h : In8W W) : ∀ (ss : List Sym), (∀ s ∈ ss, s.term = true → 0 ≤ s.n ∧ s.n < 8) → In8 (catW W ss) ∧ (catW W ss).length ≤ 2000 * ss.length
  | [], _ => ⟨fun x hx => by simp [catW] at hx, by simp [catW]⟩
  | s :: ss, hs => by
    have ih := h.cat ss (fun x hx => hs x (by simp [hx]))
    have hp : In8 (pW W s) ∧ (pW W s).length ≤ 2000 := by
      unfold pW
      split
      · rename_i ht
        have := hs s (by simp) ht
        exact ⟨fun x hx => by simp at hx; subst hx; exact this, by simp⟩
      · exact h.getD _
    refine ⟨fun x hx => ?_, ?_⟩
    · unfold catW at hx
      rcases List.mem_append.1 hx with hx | hx
      · exact hp.1 x hx
      · exact ih.1 x hx
    · simp only [catW, List.length_append, List.length_cons]
      omega
theorem In8W.set_ {W : List (List Int)} (h : In8W W) {u : List Int} (h1 : In8 u) (h2 : u.length ≤ 2000) (m : Nat) : In8W (W.set m u) := fun x hx => by
  rcases List.mem_or_eq_of_mem_set hx with hx | rfl
  · exact h x hx
  · exact ⟨h1, h2⟩
theorem catW_snoc (W : List (List Int)) : ∀ (ss : List Sym) (s : Sym), catW W (ss ++ [s]) = catW W ss ++ pW W s
  | [], s => by simp [catW]
  | x :: ss, s => by simp only [List.cons_append, catW, catW_snoc W ss s, List.append_assoc]
theorem knowsB_snoc (K : List Bool) (ss : List Sym) (s : Sym) : knowsB K (ss ++ [s]) = (knowsB K ss && (s.term || K.getD s.n.toNat false)) := by simp [knowsB]
/-- A rule, at a table: nothing to improve. -/
def Stab1 (L : List Int) (W : List (List Int)) (K : List Bool) (q : Rule) : Prop := okR L W K q → K.getD q.left.toNat false = true ∧ leW (W.getD q.left.toNat []) (catW W q.right)
theorem msr_better {n : Nat} {W : List (List Int)} {K : List Bool} {i : Nat} {u : List Int} (hlw : W.length = n) (hlk : K.length = n) (hi : i < n) (hW : In8W W) (hu : In8 u) (hul : u.length ≤ 2000) (hb : K.getD i false = true → (W.getD i []).length = u.length ∧ cmpL u (W.getD i []) < 0) : msr (p8 2000) (W.set i u) (K.set i true) < msr (p8 2000) W K := by
  refine msr_set _ W K i u (by omega) (by omega) ?_
  cases hk : K.getD i false
  · simp only [Bool.false_eq_true, if_false]
    exact Nat.lt_of_lt_of_le (rank_lt u hu) (p8_mono hul)
  · simp only [if_true]
    obtain ⟨h1, h2⟩ := hb hk
    exact rank_less u _ hu (hW.getD i).1 h1.symm ((cmpL_lt _ _).1 h2)
end Go.Proofs.YtlgchgpplfhneaaDoor
