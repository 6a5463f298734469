/- Rows of uint32 made one by one into a slice that was made whole: their memory. Written by genrowu.py. -/
import Derived.Test.YtlgchgpplfhneaaDoorKept
import Derived.Test.YtlgchgpplfhneaaDoorElem
namespace Go.Proofs.YtlgchgpplfhneaaDoor
open Go.RowKit
set_option linter.unusedVariables false

def uSl (b m : Nat) : Value := .slice (some ⟨b, 0, none⟩) m m
def ucells (l : List Nat) : Array Value := (l.map fun x : Nat => Value.int .u32 (x : Int)).toArray
theorem ucells_get {l : List Nat} {i : Nat} {x : Nat} (h : l[i]? = some x) : (ucells l)[i]? = some (.int .u32 (x : Int)) := by simp [ucells, h]
theorem ucells_set (l : List Nat) (i : Nat) (x : Nat) : (ucells l).setIfInBounds i (.int .u32 (x : Int)) = ucells (l.set i x) := by
  apply Array.ext'
  simp [ucells, List.map_set]
theorem infoU32 : (Tryd.prog.info? 65).map (fun i => (i.zero, i.size, i.bytes)) = some (some (.int .u32 0), 1, 4) := by kernel_rfl
theorem infoU32s : (Tryd.prog.info? 66).map (fun i => (i.zero, i.size, i.bytes)) = some (some (.slice none 0 0), 1, 24) := by kernel_rfl
theorem mkU32 (n : Nat) (hn : n ≤ 1000000) (W : World) : (Instr.makeSlice 66 (.int .i64 (n : Int)) (.int .i64 (n : Int))).run Tryd.prog W = .ok (.slice (some ⟨W.heap.size, 0, none⟩) n n) (W.alloc (.cells (ucells (List.replicate n 0)) 65)) := by
  obtain ⟨i0, hi, hz0, hz1, hz2⟩ := info_parts infoU32
  have h := run_makeSlice (P := Tryd.prog) W 66 65 i0 (.int .u32 0) Tryd.underlying66 hi hz0 .i64 .i64 (n : Int) (n : Int) (by omega) (Int.le_refl _) (by rw [hz1]; simp; omega) (by rw [hz2]; omega) (by omega)
  rw [h, hz1]
  simp only [Int.toNat_natCast]
  have e : madeCells (Value.int .u32 0).cells (n * 1) = ucells (List.replicate n 0) := by
    apply Array.ext'
    show (madeCells #[Value.int .u32 0] (n * 1)).toList = _
    rw [toList_madeCells_one]
    simp [ucells]
  rw [e]

structure RowsU (w : World) (bf : Nat) (bs : List Nat) (m n cf : Nat) (f : List (List Nat)) : Prop where
  flen : f.length = n
  blen : bs.length = n
  outer : ∀ (i b : Nat), bs[i]? = some b → w.cell? ⟨bf, i, none⟩ = some (uSl b m)
  rows : ∀ (i b : Nat) (row : List Nat), bs[i]? = some b → f[i]? = some row → Blk' w b 65 (ucells row) ∧ row.length = m
  nodup : (bf :: bs).Nodup
  bflt : bf < w.heap.size
  cap : n ≤ cf ∧ cf ≤ 9223372036854775807
section
variable {w w' : World} {bf m n cf : Nat} {bs : List Nat} {f : List (List Nat)}
theorem RowsU.kept {X : Nat → Prop} (h : RowsU w bf bs m n cf f) (k : Kept X w w') (hx : ∀ b ∈ bf :: bs, ¬ X b) : RowsU w' bf bs m n cf f :=
  ⟨h.flen, h.blen, fun i b hb => (k.cell (p := ⟨bf, i, none⟩) h.bflt (hx _ (by simp))).trans (h.outer i b hb),
    fun i b row hb hr => ⟨(h.rows i b row hb hr).1.kept k (hx _ (by simp [List.mem_of_getElem? hb])), (h.rows i b row hb hr).2⟩, h.nodup, Nat.lt_of_lt_of_le h.bflt k.size, h.cap⟩
theorem RowsU.below (h : RowsU w bf bs m n cf f) (k : Below w.heap.size w w') : RowsU w' bf bs m n cf f :=
  h.kept (Kept.of_below (fun _ => False) k) (fun _ _ h => h)
theorem RowsU.lt (h : RowsU w bf bs m n cf f) : ∀ b ∈ bf :: bs, b < w.heap.size := by
  intro b hb
  rcases List.mem_cons.1 hb with rfl | hb
  · exact h.bflt
  obtain ⟨i, hi, rfl⟩ := List.getElem_of_mem hb
  have h1 : i < f.length := by have := h.blen; have := h.flen; omega
  exact (h.rows i _ _ (List.getElem?_eq_getElem hi) (List.getElem?_eq_getElem h1)).1.lt
theorem RowsU.setRow (h : RowsU w bf bs m n cf f) {i bi : Nat} {row' : List Nat} (hi : bs[i]? = some bi) (k : Kept (fun b => b = bi) w w') (hb : Blk' w' bi 65 (ucells row')) (hl : row'.length = m) : RowsU w' bf bs m n cf (f.set i row') := by
  have hm := List.mem_of_getElem? hi
  have hnd := h.nodup
  simp only [List.nodup_cons] at hnd
  obtain ⟨n6, n7⟩ := hnd
  refine ⟨by simp [h.flen], h.blen, fun j b hb' => (k.cell (p := ⟨bf, j, none⟩) h.bflt (fun e => n6 (by have e' : bf = bi := e; exact e' ▸ hm))).trans (h.outer j b hb'), fun j b row hjb hjr => ?_, h.nodup, Nat.lt_of_lt_of_le h.bflt k.size, h.cap⟩
  rw [List.getElem?_set] at hjr
  split at hjr
  · rename_i e
    subst e
    split at hjr
    · injection hjr with hjr
      subst hjr
      rw [hi] at hjb
      injection hjb with hjb
      subst hjb
      exact ⟨hb, hl⟩
    · cases hjr
  · rename_i e
    have hr := h.rows j b row hjb hjr
    refine ⟨hr.1.kept k (fun e' => ?_), hr.2⟩
    subst e'
    obtain ⟨q1, q2⟩ := List.getElem?_eq_some_iff.1 hi
    obtain ⟨q3, q4⟩ := List.getElem?_eq_some_iff.1 hjb
    exact e ((List.getElem_inj n7).1 (q2.trans q4.symm))
end


/-- Slices of rows: the first ones made, the others nil. -/
def sucells (bs : List Nat) (m n : Nat) : Array Value := ((bs.map fun b => uSl b m) ++ List.replicate (n - bs.length) (Value.slice none 0 0)).toArray
theorem sucells_get {bs : List Nat} {m n i b : Nat} (h : bs[i]? = some b) : (sucells bs m n)[i]? = some (uSl b m) := by
  have hi := (List.getElem?_eq_some_iff.1 h).1
  unfold sucells
  rw [List.getElem?_toArray, List.getElem?_append_left (by simpa using hi)]
  simp [h]
theorem sucells_set {bs : List Nat} {m n b : Nat} (h : bs.length < n) : (sucells bs m n).setIfInBounds bs.length (uSl b m) = sucells (bs ++ [b]) m n := by
  apply Array.ext'
  unfold sucells
  simp only [Array.toList_setIfInBounds]
  apply List.ext_getElem?
  intro j
  rw [List.getElem?_set]
  by_cases e : bs.length = j
  · subst e
    rw [if_pos rfl, if_pos (by simp; omega), List.getElem?_append_left (by simp)]
    simp
  · rw [if_neg e]
    rcases Nat.lt_or_ge j bs.length with hj | hj
    · rw [List.getElem?_append_left (by simpa using hj), List.getElem?_append_left (by simp; omega)]
      rw [List.map_append, List.getElem?_append_left (by simpa using hj)]
    · rw [List.getElem?_append_right (by simpa using hj), List.getElem?_append_right (by simp; omega), List.getElem?_replicate, List.getElem?_replicate]
      simp only [List.length_map, List.length_append, List.length_cons, List.length_nil]
      by_cases hn : j < n
      · rw [if_pos (by omega), if_pos (by omega)]
      · rw [if_neg (by omega), if_neg (by omega)]
theorem sucells_nil {bs : List Nat} {m n i : Nat} (h : bs.length ≤ i) (hi : i < n) : (sucells bs m n)[i]? = some (.slice none 0 0) := by
  unfold sucells
  rw [List.getElem?_toArray, List.getElem?_append_right (by simpa using h), List.getElem?_replicate, if_pos (by simp; omega)]
theorem mkRowsU (n : Nat) (hn : n ≤ 1000000) (W : World) : (Instr.makeSlice 67 (.int .i64 (n : Int)) (.int .i64 (n : Int))).run Tryd.prog W = .ok (.slice (some ⟨W.heap.size, 0, none⟩) n n) (W.alloc (.cells (sucells [] 0 n) 66)) := by
  obtain ⟨i0, hi, hz0, hz1, hz2⟩ := info_parts infoU32s
  have h := run_makeSlice (P := Tryd.prog) W 67 66 i0 (.slice none 0 0) Tryd.underlying67 hi hz0 .i64 .i64 (n : Int) (n : Int) (by omega) (Int.le_refl _) (by rw [hz1]; simp; omega) (by rw [hz2]; omega) (by omega)
  rw [h, hz1]
  simp only [Int.toNat_natCast]
  have e : madeCells (Value.slice none 0 0).cells (n * 1) = sucells [] 0 n := by
    apply Array.ext'
    show (madeCells #[Value.slice none 0 0] (n * 1)).toList = _
    rw [toList_madeCells_one]
    simp [sucells]
  rw [e]
theorem sucells_any (m m' n : Nat) : sucells [] m n = sucells [] m' n := rfl

/-- The first rows are made. -/
structure RowPU (w : World) (bf n m : Nat) (bs : List Nat) (f : List (List Nat)) : Prop where
  flen : f.length = bs.length
  le : bs.length ≤ n
  outer : Blk' w bf 66 (sucells bs m n)
  rows : ∀ (i b : Nat) (row : List Nat), bs[i]? = some b → f[i]? = some row → Blk' w b 65 (ucells row) ∧ row.length = m
  lt : ∀ b ∈ bs, bf < b ∧ b < w.heap.size
  nodup : bs.Nodup
theorem RowPU.start {w : World} {bf n : Nat} (m : Nat) (h : Blk' w bf 66 (sucells [] 0 n)) : RowPU w bf n m [] [] :=
  ⟨rfl, Nat.zero_le _, h, by simp, by simp, List.nodup_nil⟩
theorem RowPU.next {w w' : World} {bf n m R : Nat} {bs : List Nat} {f : List (List Nat)} {row : List Nat} (h : RowPU w bf n m bs f) (hlt : bs.length < n) (k : Kept (fun b => b = bf) w w') (hO : Blk' w' bf 66 (sucells (bs ++ [R]) m n)) (hR : Blk' w' R 65 (ucells row)) (hl : row.length = m) (hR0 : w.heap.size ≤ R) :
    RowPU w' bf n m (bs ++ [R]) (f ++ [row]) := by
  have hbf := h.outer.lt
  refine ⟨by simp [h.flen], by simp; omega, hO, fun i b row' hi hr => ?_, fun b hbm => ?_, ?_⟩
  · rcases Nat.lt_or_ge i bs.length with hlt2 | hge
    · rw [List.getElem?_append_left hlt2] at hi
      rw [List.getElem?_append_left (by rw [h.flen]; exact hlt2)] at hr
      obtain ⟨h1, h2⟩ := h.rows i b row' hi hr
      have hm := h.lt b (List.mem_of_getElem? hi)
      exact ⟨h1.kept k (by omega), h2⟩
    · have e1 : i = bs.length := by have := (List.getElem?_eq_some_iff.1 hi).1; simp at this; omega
      subst e1
      rw [List.getElem?_append_right (Nat.le_refl _)] at hi
      rw [List.getElem?_append_right (by rw [h.flen]; exact Nat.le_refl _), h.flen] at hr
      simp at hi hr
      subst hi; subst hr
      exact ⟨hR, hl⟩
  · have hs := k.size
    rcases List.mem_append.1 hbm with hbm | hbm
    · have := h.lt b hbm
      exact ⟨this.1, by omega⟩
    · simp at hbm
      subst hbm
      exact ⟨by omega, hR.lt⟩
  · rw [List.nodup_append]
    exact ⟨h.nodup, by simp, fun a ha b hb' e => by simp at hb'; subst hb'; have := h.lt a ha; omega⟩
theorem RowPU.done {w : World} {bf n m : Nat} {bs : List Nat} {f : List (List Nat)} (h : RowPU w bf n m bs f) (hn : bs.length = n) (hm : n ≤ 9223372036854775807) : RowsU w bf bs m n n f :=
  ⟨by rw [h.flen, hn], hn, fun i b hib => (h.outer.cell i).trans (sucells_get hib), h.rows, by
    simp only [List.nodup_cons]
    exact ⟨fun hm => by have := h.lt bf hm; omega, h.nodup⟩, h.outer.lt, Nat.le_refl _, hm⟩
end Go.Proofs.YtlgchgpplfhneaaDoor
