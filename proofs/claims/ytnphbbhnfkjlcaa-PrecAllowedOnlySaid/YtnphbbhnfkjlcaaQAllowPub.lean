/- Contract: prec.Allowed. -/
import Derived.Test.YtnphbbhnfkjlcaaQAllowed
import Derived.Test.YtnphbbhnfkjlcaaQGTree
import Derived.Test.YtnphbbhnfkjlcaaQPrecPub
namespace Go.Proofs.Ytnphbbhnfkjlcaa
open Go.RowKit
set_option linter.unusedVariables false

def allowV (t : Table) (x : Tree) : Bool := if precCheck t = 0 then if treeE (flatG t) x = 0 then allowE t x else false else false
def allowEr (t : Table) (x : Tree) : Int := if precCheck t = 0 then treeE (flatG t) x else precCheck t
theorem frules_len {t : Table} : ∀ q ∈ flatRules t, q.right.length ≤ 1000 := by
  intro q hq
  obtain ⟨i, hi⟩ := List.mem_iff_getElem?.1 hq
  obtain ⟨v, _, hf⟩ := flat_row t i q hi
  rcases hf with ⟨_, h | ⟨_, h⟩⟩ | ⟨_, l, op, _, _, _, rfl⟩
  · rw [h]; simp
  · rw [h]; simp
  · unfold opRule; dsimp only; split <;> simp

set_option maxRecDepth 100000 in
set_option maxHeartbeats 4000000 in
theorem allowed_any (t : Table) (x : Tree) (A B : Option Addr) (c d : Nat) (S S' : Nat → Prop) (w : World) (h64 : I64 t.terms ∧ I64 t.atom ∧ I64 t.opn ∧ I64 t.cls) (hlc : t.levels.length ≤ c) (hc : c ≤ 9223372036854775807) (hA : Els w S t.levels A) (hS : ∀ b, S b → b < w.heap.size) (hN : (allOps t).length ≤ 2000000)
    (hr : I64 x.rule) (ht : I64 x.term) (hld : x.kids.length ≤ d) (hd : d ≤ 9223372036854775807) (hB : Els w S' x.kids B) (hS' : ∀ b, S' b → b < w.heap.size) :
    Calls Try.prog 29 #[.agg #[.int .i64 t.terms, .int .i64 t.atom, .int .i64 t.opn, .int .i64 t.cls, .slice A t.levels.length c], .agg #[.int .i64 x.rule, .int .i64 x.term, .slice B x.kids.length d]] w (fun e w' => e = .returned (.tuple #[.bool (allowV t x), .int .i64 (allowEr t x)]) ∧ Below w.heap.size w w') := by
  obtain ⟨w0, hw0⟩ : ∃ w0 : World, w0 = (w.alloc (.cells #[.int .i64 t.terms, .int .i64 t.atom, .int .i64 t.opn, .int .i64 t.cls, .slice A t.levels.length c] 37)).alloc (.cells #[.int .i64 x.rule, .int .i64 x.term, .slice B x.kids.length d] 41) := ⟨_, rfl⟩
  have hb0 : Below w.heap.size w w0 := by rw [hw0]; exact ((Below.refl _ _).alloc (Nat.le_refl _) _).alloc (by simp) _
  have hT0 : Blk' w0 w.heap.size 37 #[.int .i64 t.terms, .int .i64 t.atom, .int .i64 t.opn, .int .i64 t.cls, .slice A t.levels.length c] := by rw [hw0]; exact (Blk'.new w _ _).alloc _
  have hX0 : Blk' w0 (w.heap.size + 1) 41 #[.int .i64 x.rule, .int .i64 x.term, .slice B x.kids.length d] := by rw [hw0]; exact Blk'.new' _ _ _ (by simp)
  have H0 := Lib.hid (And.intro hb0 (And.intro hT0 (And.intro hX0 (And.intro trivial (And.intro (hA.below hb0) (hB.below hb0))))))
  have HW0 := Lib.hid hw0
  have HS := Lib.hid hS
  have HS' := Lib.hid hS'
  have H64 := Lib.hid h64
  have HN := Lib.hid hN
  have HR := Lib.hid (And.intro hr ht)
  have t0 : w0.cell? ⟨w.heap.size, 0, none⟩ = some (.int .i64 t.terms) := hT0.cell 0
  have t1 : w0.cell? ⟨w.heap.size, 1, none⟩ = some (.int .i64 t.atom) := hT0.cell 1
  have t2 : w0.cell? ⟨w.heap.size, 2, none⟩ = some (.int .i64 t.opn) := hT0.cell 2
  have t3 : w0.cell? ⟨w.heap.size, 3, none⟩ = some (.int .i64 t.cls) := hT0.cell 3
  have t4 : w0.cell? ⟨w.heap.size, 4, none⟩ = some (.slice A t.levels.length c) := hT0.cell 4
  clear hw0 hb0 hT0 hX0 hA hB hS hS' h64 hN hr ht
  go_enter Try.func29, Try.ntmps29
  go_upto_region 1 with (fail)
  rw [← HW0.out]
  go_wp2_with fail
  refine (precCheck_any t A c S _ H64.out hlc (by omega) H0.out.2.2.2.2.1 (fun b hb => Nat.lt_of_lt_of_le (HS.out b hb) H0.out.1.size) HN.out).mono ?_
  rintro e w1 ⟨rfl, hb1⟩
  have H1 := Lib.hid (And.intro (bthen H0.out.1 hb1 H0.out.1.size) (And.intro (H0.out.2.1.below hb1 H0.out.2.1.lt) (And.intro (H0.out.2.2.1.below hb1 H0.out.2.2.1.lt) (And.intro trivial (And.intro (H0.out.2.2.2.2.1.below hb1) (H0.out.2.2.2.2.2.below hb1))))))
  clear hb1 t0 t1 t2 t3 t4 H0
  have t0 : w1.cell? ⟨w.heap.size, 0, none⟩ = some (.int .i64 t.terms) := H1.out.2.1.cell 0
  have t1 : w1.cell? ⟨w.heap.size, 1, none⟩ = some (.int .i64 t.atom) := H1.out.2.1.cell 1
  have t2 : w1.cell? ⟨w.heap.size, 2, none⟩ = some (.int .i64 t.opn) := H1.out.2.1.cell 2
  have t3 : w1.cell? ⟨w.heap.size, 3, none⟩ = some (.int .i64 t.cls) := H1.out.2.1.cell 3
  have t4 : w1.cell? ⟨w.heap.size, 4, none⟩ = some (.slice A t.levels.length c) := H1.out.2.1.cell 4
  by_cases h0 : precCheck t = 0
  · have V := Lib.hid (valid_of h0)
    have EG := Lib.hid (show flatG t = ⟨t.terms, 1, 0, flatRules t⟩ by simp [flatG, h0])
    have HC := Lib.hid h0
    rw [h0]
    clear h0
    go_wp2_with fail
    refine (flat_any t A c S _ H64.out hlc (by omega) H1.out.2.2.2.2.1 (fun b hb => Nat.lt_of_lt_of_le (HS.out b hb) H1.out.1.size) (V.out.small true).1).mono ?_
    rintro e w2 ⟨v1, v2, rfl, h2, hb2⟩
    obtain ⟨A1, n1, q1, e1, hn1, hq1, hm1⟩ : ∃ A n c, v1 = Value.slice A n c ∧ n = (flatRules t).length ∧ n ≤ c ∧ c ≤ 9223372036854775807 := by obtain ⟨A, c, e, h1, h2, _⟩ := h2.1.form; exact ⟨_, _, _, e, rfl, h1, h2⟩
    obtain ⟨A2, n2, q2, e2, hn2, hq2, hm2⟩ : ∃ A n c, v2 = Value.slice A n c ∧ n = (flatLev t).length ∧ n ≤ c ∧ c ≤ 9223372036854775807 := by obtain ⟨A, c, e, h1, h2, _⟩ := h2.2.1.form; exact ⟨_, _, _, e, rfl, h1, h2⟩
    subst e1; subst e2
    have HV := Lib.hid (And.intro h2.vl1 h2.vl2)
    clear t0 t1 t2 t3 t4
    subst hn1; subst hn2
    obtain ⟨w3, hw3⟩ : ∃ w3 : World, w3 = (w2.alloc (.cells #[.int .i64 t.terms, .int .i64 1, .int .i64 0, .slice A1 (flatRules t).length q1] 49)).alloc (.cells #[.slice A2 (flatLev t).length q2] 38) := ⟨_, rfl⟩
    have HW3 := Lib.hid hw3
    have hb3 : Below w2.heap.size w2 w3 := by rw [hw3]; exact ((Below.refl _ _).alloc (Nat.le_refl _) _).alloc (by simp) _
    have hG3 : Blk' w3 w2.heap.size 49 #[.int .i64 t.terms, .int .i64 1, .int .i64 0, .slice A1 (flatRules t).length q1] := by rw [hw3]; exact (Blk'.new w2 _ _).alloc _
    have hL3 : Blk' w3 (w2.heap.size + 1) 38 #[.slice A2 (flatLev t).length q2] := by rw [hw3]; exact Blk'.new' _ _ _ (by simp)
    have hz3 : w3.heap.size = w2.heap.size + 2 := by rw [hw3]; simp
    have HZ3 := Lib.hid hz3
    have hb2' := bthen H1.out.1 hb2 H1.out.1.size
    have H3 := Lib.hid (And.intro (bthen hb2' hb3 hb2'.size) (And.intro ((H1.out.2.2.1.below hb2 H1.out.2.2.1.lt).below hb3 (H1.out.2.2.1.below hb2 H1.out.2.2.1.lt).lt) (And.intro ((H1.out.2.1.below hb2 H1.out.2.1.lt).below hb3 (H1.out.2.1.below hb2 H1.out.2.1.lt).lt) (And.intro ((H1.out.2.2.2.2.2.below hb2).below hb3) (And.intro hG3 (And.intro hL3 (And.intro (HV.out.1.els.2.2.2.below hb3) (HV.out.2.els.2.2.2.below hb3))))))))
    have hz2 : w1.heap.size ≤ w2.heap.size := hb2.size
    have HA3 := Lib.hid ((H1.out.2.2.2.2.1.below hb2).below hb3)
    clear h2 hb2 hw3 hb3 hG3 hL3 hz3 hb2' HV H1
    have g0 : w3.cell? ⟨w2.heap.size, 0, none⟩ = some (.int .i64 t.terms) := H3.out.2.2.2.2.1.cell 0
    have g1 : w3.cell? ⟨w2.heap.size, 1, none⟩ = some (.int .i64 1) := H3.out.2.2.2.2.1.cell 1
    have g2 : w3.cell? ⟨w2.heap.size, 2, none⟩ = some (.int .i64 0) := H3.out.2.2.2.2.1.cell 2
    have g3 : w3.cell? ⟨w2.heap.size, 3, none⟩ = some (.slice A1 (flatRules t).length q1) := H3.out.2.2.2.2.1.cell 3
    have x0 : w3.cell? ⟨w.heap.size + 1, 0, none⟩ = some (.int .i64 x.rule) := H3.out.2.1.cell 0
    have x1 : w3.cell? ⟨w.heap.size + 1, 1, none⟩ = some (.int .i64 x.term) := H3.out.2.1.cell 1
    have x2 : w3.cell? ⟨w.heap.size + 1, 2, none⟩ = some (.slice B x.kids.length d) := H3.out.2.1.cell 2
    have hrl : (flatRules t).length ≤ 1000 := by
      have h1 := V.out.ops
      have h2 := V.out.levels
      simp only [flatRules, List.length_cons, List.length_append, levRules_len]
      split <;> simp only [List.length_cons, List.length_nil] <;> omega
    have HRL := Lib.hid hrl
    have hll : (flatLev t).length ≤ 1000000 := (V.out.small true).1.2
    have HLL := Lib.hid hll
    clear hrl hll
    go_upto_region 5 with (fail)
    rw [← HW3.out]
    go_wp2_with fail
    refine (gtree_any ⟨t.terms, 1, 0, flatRules t⟩ A1 q1 _ S' x B d _ HRL.out frules_len H3.out.2.2.2.2.2.2.1 (fun b hb => by have h1 := hb.2; have h2 := HZ3.out; omega) (fun b hb => by have h1 := HS'.out b hb; have h2 := H3.out.1.size; omega) HR.out.1 HR.out.2 hld hd H3.out.2.2.2.1).mono ?_
    rintro e w4 ⟨rfl, hb4⟩
    have H4 := Lib.hid (And.intro (bthen H3.out.1 hb4 H3.out.1.size) (And.intro (H3.out.2.1.below hb4 H3.out.2.1.lt) (And.intro (H3.out.2.2.1.below hb4 H3.out.2.2.1.lt) (And.intro (H3.out.2.2.2.1.below hb4) (And.intro (H3.out.2.2.2.2.2.1.below hb4 H3.out.2.2.2.2.2.1.lt) (H3.out.2.2.2.2.2.2.2.below hb4))))))
    have hz4 : w3.heap.size ≤ w4.heap.size := hb4.size
    have hb4' := hb4
    clear hb4 g0 g1 g2 g3 x0 x1 x2
    have EB := Lib.hid (show allowEr t x = treeE ⟨t.terms, 1, 0, flatRules t⟩ x by rw [allowEr, if_pos HC.out, EG.out])
    by_cases hte : treeE ⟨t.terms, 1, 0, flatRules t⟩ x = 0
    · have EV := Lib.hid (show allowV t x = allowE t x by rw [allowV, if_pos HC.out, EG.out, if_pos hte])
      have HTE := Lib.hid hte
      have HOK : Hid (∃ s, vt ⟨t.terms, 1, 0, flatRules t⟩ x s) := Lib.hid ⟨_, vt_of_visit _ x 0 hte⟩
      have HA4 := Lib.hid (HA3.out.below hb4')
      rw [hte]
      clear hte
      have x0 : w4.cell? ⟨w.heap.size + 1, 0, none⟩ = some (.int .i64 x.rule) := H4.out.2.1.cell 0
      have x1 : w4.cell? ⟨w.heap.size + 1, 1, none⟩ = some (.int .i64 x.term) := H4.out.2.1.cell 1
      have x2 : w4.cell? ⟨w.heap.size + 1, 2, none⟩ = some (.slice B x.kids.length d) := H4.out.2.1.cell 2
      have zx : w.heap.size + 1 < w4.heap.size := H4.out.2.1.lt
      have hba : Below w4.heap.size w4 (w4.alloc (.cells #[.func (.func 71) #[] #[.pointer (some ⟨w4.heap.size, 0, none⟩), .pointer (some ⟨w2.heap.size + 1, 0, none⟩), .pointer (some ⟨w.heap.size, 0, none⟩)]] 142)) := (Below.refl _ _).alloc (Nat.le_refl _) _
      have HBk : Hid (AwS w4.heap.size (w2.heap.size + 1) w.heap.size (fun b => (False ∨ w1.heap.size ≤ b) ∧ b < w2.heap.size) S t A A2 c q2 (w4.alloc (.cells #[.func (.func 71) #[] #[.pointer (some ⟨w4.heap.size, 0, none⟩), .pointer (some ⟨w2.heap.size + 1, 0, none⟩), .pointer (some ⟨w.heap.size, 0, none⟩)]] 142))) :=
        Lib.hid ⟨Blk'.new w4 _ _, H4.out.2.2.2.2.1.below hba H4.out.2.2.2.2.1.lt, H4.out.2.2.2.2.2.below hba, H4.out.2.2.1.below hba H4.out.2.2.1.lt, HA4.out.below hba⟩
      have H5 := Lib.hid (And.intro (bthen H4.out.1 hba H4.out.1.size) (H4.out.2.2.2.1.below hba))
      clear hba hb4'
      go_wp2_with fail
      refine (allow1_any _ _ _ _ _ S' t A A2 c q2 V.out ⟨t.terms, 1, 0, flatRules t⟩ rfl HLL.out x B d _ HOK.out HR.out.1 HR.out.2 hld hd H5.out.2 HBk.out).mono ?_
      rintro e w6 ⟨rfl, hb6⟩
      have HB6 := Lib.hid (bthen H5.out.1 hb6 H5.out.1.size)
      obtain ⟨av, hav⟩ : ∃ av, av = allowE t x := ⟨_, rfl⟩
      rw [← hav]
      have HAv := Lib.hid hav
      clear hb6 x0 x1 x2 hav
      go_wp2
      exact bodyPost_ret (v := .tuple #[.bool av, .int .i64 0]) (by simp [results, Try.results29, go_sem]) rfl ⟨by rw [EV.out, EB.out, HTE.out, HAv.out], HB6.out⟩
    · have hte' : (treeE ⟨t.terms, 1, 0, flatRules t⟩ x != 0) = true := by simpa using hte
      have EV := Lib.hid (show allowV t x = false by rw [allowV, if_pos HC.out, EG.out, if_neg hte])
      clear hte hb4'
      obtain ⟨te, hte⟩ : ∃ te, te = treeE ⟨t.terms, 1, 0, flatRules t⟩ x := ⟨_, rfl⟩
      rw [← hte] at hte' ⊢
      have HTE := Lib.hid hte
      clear hte
      go_wp2
      exact bodyPost_ret (v := (.tuple #[.bool false, .int .i64 te])) (by simp [results, Try.results29, go_sem]) rfl ⟨by rw [EV.out, EB.out, HTE.out], H4.out.1⟩
  · have hq : (precCheck t != 0) = true := by simpa using h0
    have EV := Lib.hid (show allowV t x = false ∧ allowEr t x = precCheck t by simp [allowV, allowEr, h0])
    clear t0 t1 t2 t3 t4 h0
    go_wp2
    exact bodyPost_ret (v := (.tuple #[.bool false, .int .i64 (precCheck t)])) (by simp [results, Try.results29, go_sem]) rfl ⟨by rw [EV.out.1, EV.out.2], H1.out.1⟩
end Go.Proofs.Ytnphbbhnfkjlcaa
