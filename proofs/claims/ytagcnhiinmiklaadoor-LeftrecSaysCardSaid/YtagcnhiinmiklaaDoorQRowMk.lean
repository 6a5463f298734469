/- Rows of bools made one by one into a slice that was made whole: its memory. -/
import Derived.Test.YtagcnhiinmiklaaDoorQRowsM
namespace Go.Proofs.YtagcnhiinmiklaaDoor
open Go.RowKit
set_option linter.unusedVariables false

/-- Slices of rows: the first ones made, the others nil. -/
def scells (bs : List Nat) (m n : Nat) : Array Value := ((bs.map fun b => rowSl b m) ++ List.replicate (n - bs.length) (Value.slice none 0 0)).toArray
theorem scells_get {bs : List Nat} {m n i b : Nat} (h : bs[i]? = some b) : (scells bs m n)[i]? = some (rowSl b m) := by
  have hi := (List.getElem?_eq_some_iff.1 h).1
  unfold scells
  rw [List.getElem?_toArray, List.getElem?_append_left (by simpa using hi)]
  simp [h]
theorem scells_set {bs : List Nat} {m n b : Nat} (h : bs.length < n) : (scells bs m n).setIfInBounds bs.length (rowSl b m) = scells (bs ++ [b]) m n := by
  apply Array.ext'
  unfold scells
  simp only [Array.toList_setIfInBounds]
  apply List.ext_getElem?
  intro j
  rw [List.getElem?_set]
  by_cases e : bs.length = j
  · subst e
    rw [if_pos rfl, if_pos (by simp; omega), List.getElem?_append_left (by simp)]
    simp
  · rw [if_neg e]
    rcases Nat.lt_or_ge j bs.length with hj | hj
    · rw [List.getElem?_append_left (by simpa using hj), List.getElem?_append_left (by simp; omega)]
      rw [List.map_append, List.getElem?_append_left (by simpa using hj)]
    · rw [List.getElem?_append_right (by simpa using hj), List.getElem?_append_right (by simp; omega), List.getElem?_replicate, List.getElem?_replicate]
      simp only [List.length_map, List.length_append, List.length_cons, List.length_nil]
      by_cases hn : j < n
      · rw [if_pos (by omega), if_pos (by omega)]
      · rw [if_neg (by omega), if_neg (by omega)]
theorem scells_nil {bs : List Nat} {m n i : Nat} (h : bs.length ≤ i) (hi : i < n) : (scells bs m n)[i]? = some (.slice none 0 0) := by
  unfold scells
  rw [List.getElem?_toArray, List.getElem?_append_right (by simpa using h), List.getElem?_replicate, if_pos (by simp; omega)]
theorem mkRows (n : Nat) (hn : n ≤ 1000000) (W : World) : (Instr.makeSlice 71 (.int .i64 (n : Int)) (.int .i64 (n : Int))).run Tryd.prog W = .ok (.slice (some ⟨W.heap.size, 0, none⟩) n n) (W.alloc (.cells (scells [] 0 n) 66)) := by
  obtain ⟨i0, hi, hz0, hz1, hz2⟩ := info_parts infoBools
  have h := run_makeSlice (P := Tryd.prog) W 71 66 i0 (.slice none 0 0) Tryd.underlying71 hi hz0 .i64 .i64 (n : Int) (n : Int) (by omega) (Int.le_refl _) (by rw [hz1]; simp; omega) (by rw [hz2]; omega) (by omega)
  rw [h, hz1]
  simp only [Int.toNat_natCast]
  have e : madeCells (Value.slice none 0 0).cells (n * 1) = scells [] 0 n := by
    apply Array.ext'
    show (madeCells #[Value.slice none 0 0] (n * 1)).toList = _
    rw [toList_madeCells_one]
    simp [scells]
  rw [e]
theorem scells_any (m m' n : Nat) : scells [] m n = scells [] m' n := rfl

/-- The first rows are made. -/
structure RowP (w : World) (bf n m : Nat) (bs : List Nat) (f : List (List Bool)) : Prop where
  flen : f.length = bs.length
  le : bs.length ≤ n
  outer : Blk' w bf 66 (scells bs m n)
  rows : ∀ (i b : Nat) (row : List Bool), bs[i]? = some b → f[i]? = some row → Blk' w b 4 (bcells row) ∧ row.length = m
  lt : ∀ b ∈ bs, bf < b ∧ b < w.heap.size
  nodup : bs.Nodup
theorem RowP.start {w : World} {bf n : Nat} (m : Nat) (h : Blk' w bf 66 (scells [] 0 n)) : RowP w bf n m [] [] :=
  ⟨rfl, Nat.zero_le _, h, by simp, by simp, List.nodup_nil⟩
theorem RowP.next {w w' : World} {bf n m R : Nat} {bs : List Nat} {f : List (List Bool)} {row : List Bool} (h : RowP w bf n m bs f) (hlt : bs.length < n) (k : Kept (fun b => b = bf) w w') (hO : Blk' w' bf 66 (scells (bs ++ [R]) m n)) (hR : Blk' w' R 4 (bcells row)) (hl : row.length = m) (hR0 : w.heap.size ≤ R) :
    RowP w' bf n m (bs ++ [R]) (f ++ [row]) := by
  have hbf := h.outer.lt
  refine ⟨by simp [h.flen], by simp; omega, hO, fun i b row' hi hr => ?_, fun b hbm => ?_, ?_⟩
  · rcases Nat.lt_or_ge i bs.length with hlt2 | hge
    · rw [List.getElem?_append_left hlt2] at hi
      rw [List.getElem?_append_left (by rw [h.flen]; exact hlt2)] at hr
      obtain ⟨h1, h2⟩ := h.rows i b row' hi hr
      have hm := h.lt b (List.mem_of_getElem? hi)
      exact ⟨h1.kept k (by omega), h2⟩
    · have e1 : i = bs.length := by have := (List.getElem?_eq_some_iff.1 hi).1; simp at this; omega
      subst e1
      rw [List.getElem?_append_right (Nat.le_refl _)] at hi
      rw [List.getElem?_append_right (by rw [h.flen]; exact Nat.le_refl _), h.flen] at hr
      simp at hi hr
      subst hi; subst hr
      exact ⟨hR, hl⟩
  · have hs := k.size
    rcases List.mem_append.1 hbm with hbm | hbm
    · have := h.lt b hbm
      exact ⟨this.1, by omega⟩
    · simp at hbm
      subst hbm
      exact ⟨by omega, hR.lt⟩
  · rw [List.nodup_append]
    exact ⟨h.nodup, by simp, fun a ha b hb' e => by simp at hb'; subst hb'; have := h.lt a ha; omega⟩
theorem RowP.done {w : World} {bf n m : Nat} {bs : List Nat} {f : List (List Bool)} (h : RowP w bf n m bs f) (hn : bs.length = n) (hm : n ≤ 9223372036854775807) : RowsM w bf bs m n n f :=
  ⟨by rw [h.flen, hn], hn, fun i b hib => (h.outer.cell i).trans (scells_get hib), h.rows, by
    simp only [List.nodup_cons]
    exact ⟨fun hm => by have := h.lt bf hm; omega, h.nodup⟩, h.outer.lt, Nat.le_refl _, hm⟩
end Go.Proofs.YtagcnhiinmiklaaDoor
