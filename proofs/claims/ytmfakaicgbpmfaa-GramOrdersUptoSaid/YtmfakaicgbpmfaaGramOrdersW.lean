/- The walk of the law GramOrders. -/
import Derived.Test.YtmfakaicgbpmfaaGramOrdersP
import Derived.Test.YtmfakaicgbpmfaaConcatSym
namespace Go.Proofs.Ytmfakaicgbpmfaa
open Go.RowKit
set_option linter.unusedVariables false

/-- The closure 'sign'. -/
theorem sign_any (l l' : Int) (A A' : Option Addr) (c c' : Nat) (xs ys : List Sym) (S : Nat → Prop) (w : World) (hm : xs.length ≤ 9223372036854775807) (hm' : ys.length ≤ 9223372036854775807) (hA : Els w S xs A) (hA' : Els w S ys A')
    (hx : Small xs) (hy : Small ys) :
    Calls Try.prog 10 #[.agg #[.int .i64 l, .slice A xs.length c], .agg #[.int .i64 l', .slice A' ys.length c']] w
      fun e w' => e = .returned (.int .i64 (signR ⟨l, xs⟩ ⟨l', ys⟩)) ∧ Below w.heap.size w w' := by
  have bx : ∀ s ∈ xs, -1000000000 ≤ s.n ∧ s.n ≤ 1000000000 := fun s hs => by have := hx s hs; omega
  have by' : ∀ s ∈ ys, -1000000000 ≤ s.n ∧ s.n ≤ 1000000000 := fun s hs => by have := hy s hs; omega
  have hb0 : ∀ o1 o2, Below w.heap.size w ((w.alloc o1).alloc o2) := fun o1 o2 => ((Below.refl _ _).alloc (Nat.le_refl _) _).alloc (by simp) _
  go_enter Try.func10, Try.ntmps10
  go_wp2_with fail
  refine (before_any l l' A A' c c' xs ys S _ hm hm' (hA.below (hb0 _ _)) (hA'.below (hb0 _ _)) bx by').mono ?_
  rintro e w1 ⟨rfl, hb1⟩
  have HB := Lib.hid hb1
  obtain ⟨hc1, hf1⟩ := bcell hb1
  have q0 := hc1 w.heap.size 0 (by simp; omega)
  have q1 := hc1 w.heap.size 1 (by simp; omega)
  have q2 := hc1 (w.heap.size + 1) 0 (by simp)
  have q3 := hc1 (w.heap.size + 1) 1 (by simp)
  clear hc1 hf1 hb1
  simp at q0 q1 q2 q3
  have hs1 : w.heap.size + 2 ≤ w1.heap.size := by have := HB.out.size; simp at this; omega
  by_cases h1 : ruleLt ⟨l, xs⟩ ⟨l', ys⟩ = true
  · rw [h1]
    have hres : signR ⟨l, xs⟩ ⟨l', ys⟩ = -1 := by simp [signR, h1]
    have Hres := Lib.hid hres
    clear hres h1
    go_wp2
    go_ret
    exact ⟨ret_int Hres.out.symm, bthen (hb0 _ _) HB.out (by simp; omega)⟩
  · have h1' : ruleLt ⟨l, xs⟩ ⟨l', ys⟩ = false := by simpa using h1
    rw [h1']
    have hres : signR ⟨l, xs⟩ ⟨l', ys⟩ = if ruleLt ⟨l', ys⟩ ⟨l, xs⟩ then 1 else 0 := by simp [signR, h1']
    have Hres := Lib.hid hres
    clear hres h1 h1'
    go_wp2_with fail
    refine (before_any l' l A' A c' c ys xs S _ hm' hm ((hA'.below (hb0 _ _)).below HB.out) ((hA.below (hb0 _ _)).below HB.out) by' bx).mono ?_
    rintro e w2 ⟨rfl, hb2⟩
    have HB2 := Lib.hid hb2
    clear hb2 q0 q1 q2 q3
    by_cases h2 : ruleLt ⟨l', ys⟩ ⟨l, xs⟩ = true
    · rw [h2]
      have Hr2 := Lib.hid (show signR ⟨l, xs⟩ ⟨l', ys⟩ = 1 by rw [Hres.out, if_pos h2])
      clear h2
      go_wp2
      go_ret
      exact ⟨ret_int Hr2.out.symm, bthen (bthen (hb0 _ _) HB.out (by simp; omega)) HB2.out (by omega)⟩
    · have h2' : ruleLt ⟨l', ys⟩ ⟨l, xs⟩ = false := by simpa using h2
      rw [h2']
      have Hr2 := Lib.hid (show signR ⟨l, xs⟩ ⟨l', ys⟩ = 0 by rw [Hres.out, if_neg h2])
      clear h2 h2'
      go_wp2
      go_ret
      exact ⟨ret_int Hr2.out.symm, bthen (bthen (hb0 _ _) HB.out (by simp; omega)) HB2.out (by omega)⟩
end Go.Proofs.Ytmfakaicgbpmfaa
