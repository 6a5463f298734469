/- Tables of operators in plain Lean: what Check, flat and layered compute, and what a valid table is. No program is named here. -/
import Derived.Test.YtlbhaegdcpacpaaPrecData
namespace Go.Proofs.Ytlbhaegdcpacpaa
set_option linter.unusedVariables false

def brk (t : Table) : Bool := decide (t.opn ≠ -1) || decide (t.cls ≠ -1)
def precScan (terms : Int) : List Int → List Int → Int
  | _, [] => 0
  | seen, x :: xs => if x < 0 ∨ terms ≤ x then 1 else if x ∈ seen then 6 else precScan terms (seen ++ [x]) xs
def badLevel (l : Level) : Bool := decide (l.kind < 0 ∨ 3 < l.kind ∨ l.ops.length = 0)
def allOps (t : Table) : List Int := (if brk t then [t.opn, t.cls] else []) ++ (t.levels.map Level.ops).flatten
def precCheck (t : Table) : Int :=
  if t.terms < 1 ∨ 8 < t.terms ∨ t.atom < 0 ∨ t.terms ≤ t.atom then 1
  else if 6 < t.levels.length then 2
  else if t.levels.any badLevel then 3
  else precScan t.terms [t.atom] (allOps t)

def opRule (kd op : Int) : Rule := ⟨0, if kd = 3 then [⟨true, op⟩, ⟨false, 0⟩] else [⟨false, 0⟩, ⟨true, op⟩, ⟨false, 0⟩]⟩
def levRules (l : Level) : List Rule := l.ops.map (opRule l.kind)
def levFrom : Nat → List Level → List Int
  | _, [] => []
  | k, l :: ls => l.ops.map (fun _ => (k : Int)) ++ levFrom (k + 1) ls
def flatRules (t : Table) : List Rule := ⟨0, [⟨true, t.atom⟩]⟩ :: ((if brk t then [⟨0, [⟨true, t.opn⟩, ⟨false, 0⟩, ⟨true, t.cls⟩]⟩] else []) ++ (t.levels.map levRules).flatten)
def flatLev (t : Table) : List Int := (t.levels.length : Int) :: ((if brk t then [(t.levels.length : Int)] else []) ++ levFrom 0 t.levels)

def layRule (kd k op : Int) : Rule :=
  ⟨k, if kd = 0 then [⟨false, k + 1⟩, ⟨true, op⟩, ⟨false, k + 1⟩] else if kd = 1 then [⟨false, k⟩, ⟨true, op⟩, ⟨false, k + 1⟩] else if kd = 2 then [⟨false, k + 1⟩, ⟨true, op⟩, ⟨false, k⟩] else [⟨true, op⟩, ⟨false, k⟩]⟩
def layFrom : Nat → List Level → List Rule
  | _, [] => []
  | k, l :: ls => l.ops.map (layRule l.kind k) ++ (⟨k, [⟨false, (k : Int) + 1⟩]⟩ :: layFrom (k + 1) ls)
def nums : Int → List Int → List Int
  | _, [] => []
  | r, _ :: os => r :: nums (r + 1) os
def toFrom : Int → List Level → List Int
  | _, [] => []
  | r, l :: ls => nums r l.ops ++ (-1 :: toFrom (r + (l.ops.length : Int)) ls)
def layTailR (b : Bool) (t : Table) : List Rule := ⟨(t.levels.length : Int), [⟨true, t.atom⟩]⟩ :: if b then [⟨(t.levels.length : Int), [⟨true, t.opn⟩, ⟨false, 0⟩, ⟨true, t.cls⟩]⟩] else []
def layTailL (b : Bool) : List Int := 0 :: if b then [1] else []
def layRules (b : Bool) (t : Table) : List Rule := layFrom 0 t.levels ++ layTailR b t
def layTo (b : Bool) (t : Table) : List Int := toFrom (if b then 2 else 1) t.levels ++ layTailL b

/-! ### A valid table -/
theorem nodup_le : ∀ (n : Nat) (l : List Int), l.Nodup → (∀ x ∈ l, 0 ≤ x ∧ x < (n : Int)) → l.length ≤ n
  | 0, l, _, h => by
    cases l with
    | nil => simp
    | cons x l => have := h x (by simp); omega
  | n + 1, l, hd, h => by
    by_cases hm : (n : Int) ∈ l
    · have h1 := nodup_le n (l.erase (n : Int)) (hd.erase _) (fun x hx => by
        have h2 := (List.Nodup.mem_erase_iff hd).1 hx
        have h3 := h x h2.2
        have h4 := h2.1
        omega)
      rw [List.length_erase_of_mem hm] at h1
      omega
    · have h1 := nodup_le n l hd (fun x hx => by
        have h3 := h x hx
        have h4 : x ≠ (n : Int) := fun e => hm (e ▸ hx)
        omega)
      omega
theorem precScan_zero (tm : Int) : ∀ (xs seen : List Int), precScan tm seen xs = 0 → seen.Nodup → (seen ++ xs).Nodup ∧ ∀ x ∈ xs, 0 ≤ x ∧ x < tm
  | [], seen, _, hd => by simpa using hd
  | x :: xs, seen, h, hd => by
    unfold precScan at h
    split at h
    · omega
    · rename_i h1
      split at h
      · omega
      · rename_i h2
        have hd' : (seen ++ [x]).Nodup := by
          rw [List.nodup_append]
          exact ⟨hd, by simp, fun a ha b hb => by simp at hb; subst hb; exact fun e => h2 (e ▸ ha)⟩
        obtain ⟨h3, h4⟩ := precScan_zero tm xs (seen ++ [x]) h hd'
        refine ⟨by simpa using h3, fun y hy => ?_⟩
        rcases List.mem_cons.1 hy with rfl | hy
        · omega
        · exact h4 y hy
theorem nums_len : ∀ (r : Int) (os : List Int), (nums r os).length = os.length
  | _, [] => rfl
  | r, _ :: os => by simp [nums, nums_len (r + 1) os]
theorem levRules_len : ∀ (ls : List Level), ((ls.map levRules).flatten).length = ((ls.map Level.ops).flatten).length
  | [] => rfl
  | l :: ls => by simp only [List.map_cons, List.flatten_cons, List.length_append, levRules_len ls, levRules, List.length_map]
theorem levFrom_len : ∀ (k : Nat) (ls : List Level), (levFrom k ls).length = ((ls.map Level.ops).flatten).length
  | _, [] => rfl
  | k, l :: ls => by simp only [levFrom, List.map_cons, List.flatten_cons, List.length_append, levFrom_len (k + 1) ls, List.length_map]
theorem layFrom_len : ∀ (k : Nat) (ls : List Level), (layFrom k ls).length = ((ls.map Level.ops).flatten).length + ls.length
  | _, [] => rfl
  | k, l :: ls => by simp only [layFrom, List.map_cons, List.flatten_cons, List.length_append, List.length_cons, layFrom_len (k + 1) ls, List.length_map]; omega
theorem toFrom_len : ∀ (r : Int) (ls : List Level), (toFrom r ls).length = ((ls.map Level.ops).flatten).length + ls.length
  | _, [] => rfl
  | r, l :: ls => by simp only [toFrom, List.map_cons, List.flatten_cons, List.length_append, List.length_cons, toFrom_len _ ls, nums_len]; omega

/-- What a table that Check lets by is. -/
structure Valid (t : Table) : Prop where
  terms : 1 ≤ t.terms ∧ t.terms ≤ 8
  atom : 0 ≤ t.atom ∧ t.atom < t.terms
  levels : t.levels.length ≤ 6
  kinds : ∀ l ∈ t.levels, 0 ≤ l.kind ∧ l.kind ≤ 3
  ops : ((t.levels.map Level.ops).flatten).length ≤ 8
  range : ∀ x ∈ allOps t, 0 ≤ x ∧ x < t.terms
  nodup : (t.atom :: allOps t).Nodup
  hbrk : brk t = decide (t.opn ≠ -1)
theorem valid_of {t : Table} (h : precCheck t = 0) : Valid t := by
  unfold precCheck at h
  split at h
  · omega
  · rename_i h1
    split at h
    · omega
    · rename_i h2
      split at h
      · omega
      · rename_i h3
        have h4 : t.levels.any badLevel = false := by simpa using h3
        obtain ⟨hn, hr⟩ := precScan_zero t.terms (allOps t) [t.atom] h (by simp)
        have hall := nodup_le 8 ([t.atom] ++ allOps t) hn (fun x hx => by
          rcases List.mem_append.1 hx with hx | hx
          · simp at hx; subst hx; omega
          · have := hr x hx; omega)
        refine ⟨by omega, by omega, by omega, fun l hl => ?_, ?_, hr, by simpa using hn, ?_⟩
        · have h5 := (List.any_eq_false.1 h4) l hl
          simp [badLevel] at h5
          omega
        · simp only [allOps, List.length_append, List.length_cons, List.length_nil] at hall
          omega
        · cases hb : brk t
          · simp [brk] at hb
            simp [hb.1]
          · have := hr t.opn (by simp [allOps, hb])
            simp; omega
theorem Valid.small {t : Table} (h : Valid t) (b : Bool) : ((flatRules t).length ≤ 1000000 ∧ (flatLev t).length ≤ 1000000) ∧ ((layRules b t).length ≤ 1000000 ∧ (layTo b t).length ≤ 1000000) ∧ (allOps t).length ≤ 2000000 := by
  have h1 := h.ops
  have h2 := h.levels
  refine ⟨⟨?_, ?_⟩, ⟨?_, ?_⟩, ?_⟩
  · have h3 : (flatRules t).length ≤ 2 + ((t.levels.map Level.ops).flatten).length := by
      simp only [flatRules, List.length_cons, List.length_append, levRules_len]
      split <;> simp only [List.length_cons, List.length_nil] <;> omega
    omega
  · have h3 : (flatLev t).length ≤ 2 + ((t.levels.map Level.ops).flatten).length := by
      simp only [flatLev, List.length_cons, List.length_append, levFrom_len]
      split <;> simp only [List.length_cons, List.length_nil] <;> omega
    omega
  · have h3 : (layRules b t).length ≤ 2 + ((t.levels.map Level.ops).flatten).length + t.levels.length := by
      simp only [layRules, layTailR, List.length_append, layFrom_len]
      split <;> simp only [List.length_cons, List.length_nil] <;> omega
    omega
  · have h3 : (layTo b t).length ≤ 2 + ((t.levels.map Level.ops).flatten).length + t.levels.length := by
      simp only [layTo, layTailL, List.length_append, toFrom_len]
      split <;> simp only [List.length_cons, List.length_nil] <;> omega
    omega
  · have h3 : (allOps t).length ≤ 2 + ((t.levels.map Level.ops).flatten).length := by
      simp only [allOps, List.length_append]
      split <;> simp only [List.length_cons, List.length_nil] <;> omega
    omega

def flatG (t : Table) : Gram := if precCheck t = 0 then ⟨t.terms, 1, 0, flatRules t⟩ else ⟨0, 0, 0, []⟩
def layG (t : Table) : Gram := if precCheck t = 0 then ⟨t.terms, (t.levels.length : Int) + 1, 0, layRules (brk t) t⟩ else ⟨0, 0, 0, []⟩
def layL (t : Table) : List Int := if precCheck t = 0 then layTo (brk t) t else []
end Go.Proofs.Ytlbhaegdcpacpaa
