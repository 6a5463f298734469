/- Plain law for GramRulesApart: a made grammar is valid; the rules of the nonterminals are apart. -/
import Derived.Test.YtjdojogjogenkaaQw1
import Derived.Test.YtjdojogjogenkaaQGrammar
namespace Go.Proofs.Ytjdojogjogenkaa
theorem symIn_of {t n : Int} {s : Sym} (h : SymOk t n s) : symIn t n s = true := by
 obtain ⟨b, k⟩ := s
 cases b <;> simp_all [SymOk, symIn]
theorem chkFrom_ok {t n : Int} : ∀ (pre rs : List Rule), (pre ++ rs).Nodup → (∀ r ∈ rs, RuleOk t n r) → chkFrom t n pre rs = 0
 | _, [], _, _ => rfl
 | pre, r :: rs, hnd, h => by
  obtain ⟨h1, h2, h3, h4⟩ := h r (by simp)
  unfold chkFrom
  rw [if_neg (by omega), if_neg (by omega), if_neg, if_neg]
  ·exact chkFrom_ok (pre ++ [r]) rs (by simpa using hnd) (fun x hx => h x (by simp [hx]))
  ·intro ha
   obtain ⟨x, hx, he⟩ := List.any_eq_true.1 ha
   have e := ruleCmp_zero.1 (by simpa using he)
   subst e
   exact (List.nodup_append.1 hnd).2.2 x hx x (by simp) rfl
  ·intro ha
   obtain ⟨x, hx, he⟩ := List.any_eq_true.1 ha
   rw [symIn_of (h4 x hx)] at he
   cases he
theorem made_check {g : Gram} (h : Made g) : checkI g = 0 := by
 obtain ⟨h1, h2, h3, h4, h5, h6, h7, h8, h9, h10⟩ := h
 unfold checkI
 rw [if_neg (by unfold gramBad; omega), if_neg (by omega)]
 exact chkFrom_ok [] g.rules (by simpa using h9) h10
theorem made_whereE {g : Gram} (h : Made g) {n : Int} (h0 : 0 ≤ n) (h1 : n < g.nons) : whereE g n = 0 := by
 unfold whereE
 rw [made_check h]
 simp
 omega
theorem mem_whereFrom {p : Rule → Bool} : ∀ {k : Nat} {rs : List Rule} {j : Int}, j ∈ whereFrom p k rs ↔ ∃ i r, rs[i]? = some r ∧ p r = true ∧ j = ((k + i : Nat) : Int)
 | k, [], j => by simp [whereFrom]
 | k, r :: rs, j => by
  have ih := @mem_whereFrom p (k + 1) rs j
  constructor
  ·intro h
   unfold whereFrom at h
   split at h
   ·rename_i hp
    rcases List.mem_cons.1 h with e | h
    ·exact ⟨0, r, rfl, hp, e⟩
    ·obtain ⟨i, x, h1, h2, h3⟩ := ih.1 h
     exact ⟨i + 1, x, by simpa using h1, h2, by rw [h3]; congr 1; omega⟩
   ·obtain ⟨i, x, h1, h2, h3⟩ := ih.1 h
    exact ⟨i + 1, x, by simpa using h1, h2, by rw [h3]; congr 1; omega⟩
  ·rintro ⟨i, x, h1, h2, h3⟩
   unfold whereFrom
   match i, h1 with
   | 0, h1 => simp at h1; subst h1; rw [if_pos h2]; subst h3; simp
   | i + 1, h1 =>
    have hm : j ∈ whereFrom p (k + 1) rs := ih.2 ⟨i, x, by simpa using h1, h2, by rw [h3]; congr 1; omega⟩
    split
    ·exact List.mem_cons_of_mem _ hm
    ·exact hm
theorem whereFrom_nodup {p : Rule → Bool} : ∀ (k : Nat) (rs : List Rule), (whereFrom p k rs).Nodup
 | k, [] => by simp [whereFrom]
 | k, r :: rs => by
  have ih := @whereFrom_nodup p (k + 1) rs
  unfold whereFrom
  split
  ·refine List.nodup_cons.2 ⟨fun h => ?_, ih⟩
   obtain ⟨i, x, _, _, h3⟩ := mem_whereFrom.1 h
   omega
  ·exact ih
def Counts (rs : List Rule) (k : Int) (l : List Int) (ms : List Int) : Prop :=
 ms.length = rs.length ∧ ∀ (i : Nat) (r : Rule), rs[i]? = some r → ms[i]? = some ((if r.left < k then 1 else 0) + (if (i : Int) ∈ l then 1 else 0))
theorem counts_start (rs : List Rule) (h : ∀ r ∈ rs, 0 ≤ r.left) : Counts rs 0 [] (List.replicate rs.length 0) := by
 refine ⟨by simp, fun i r hi => ?_⟩
 have hlt := (List.getElem?_eq_some_iff.1 hi).1
 have := h r (List.mem_of_getElem? hi)
 rw [List.getElem?_replicate, if_pos hlt, if_neg (by omega)]
 simp
theorem counts_step {rs : List Rule} {k : Int} {l ms : List Int} {j : Nat} {v : Int} (h : Counts rs k l ms) (hj : (j : Int) ∉ l) (hv : ms[j]? = some v) : Counts rs k (l ++ [(j : Int)]) (ms.set j (v + 1)) := by
 obtain ⟨h1, h2⟩ := h
 refine ⟨by simpa using h1, fun i r hi => ?_⟩
 have hlt := (List.getElem?_eq_some_iff.1 hi).1
 by_cases e : j = i
 ·subst e
  have h3 := h2 j r hi
  rw [h3] at hv
  injection hv with hv
  rw [List.getElem?_set_self (by omega), ← hv]
  simp [hj]
 ·rw [List.getElem?_set_ne e, h2 i r hi]
  have : ((i : Int) ∈ l ++ [(j : Int)]) ↔ ((i : Int) ∈ l) := by simp; omega
  simp only [this]
theorem counts_next {rs : List Rule} {k : Nat} {ms : List Int} (h : Counts rs k (whereFrom (fun r => r.left == (k : Int)) 0 rs) ms) : Counts rs ((k : Int) + 1) [] ms := by
 obtain ⟨h1, h2⟩ := h
 refine ⟨h1, fun i r hi => ?_⟩
 rw [h2 i r hi]
 congr 1
 have hm : ((i : Int) ∈ whereFrom (fun r => r.left == (k : Int)) 0 rs) ↔ r.left = k := by
  rw [mem_whereFrom]
  constructor
  ·rintro ⟨j, x, h3, h4, h5⟩
   have : i = j := by omega
   subst this
   rw [hi] at h3
   injection h3 with h3
   subst h3
   simpa using h4
  ·intro e
   exact ⟨i, r, hi, by simpa using e, by omega⟩
 simp only [hm]
 simp
 repeat' split
 all_goals omega
theorem counts_end {rs : List Rule} {n : Int} {ms : List Int} (h : Counts rs n [] ms) (hl : ∀ r ∈ rs, r.left < n) : ms.any (fun k => k != 1) = false := by
 obtain ⟨h1, h2⟩ := h
 refine List.any_eq_false.2 fun v hv => ?_
 obtain ⟨i, hi, rfl⟩ := List.getElem_of_mem hv
 have hr : rs[i]? = some rs[i] := List.getElem?_eq_getElem (by omega)
 have h3 := h2 i _ hr
 rw [List.getElem?_eq_getElem hi] at h3
 injection h3 with h3
 rw [h3, if_pos (hl _ (List.getElem_mem _))]
 simp
end Go.Proofs.Ytjdojogjogenkaa
