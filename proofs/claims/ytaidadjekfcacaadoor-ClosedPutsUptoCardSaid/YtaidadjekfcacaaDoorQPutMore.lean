/- parlref2.Put and closed.Put come to the same; the chain's Put; a comparison that comes out true. -/
import Derived.Test.YtaidadjekfcacaaDoorQPutRef
import Derived.Test.YtaidadjekfcacaaDoorQPutE
import Derived.Test.YtaidadjekfcacaaDoorQPairErrD
import Derived.Test.YtaidadjekfcacaaDoorQSame
import Derived.Test.YtaidadjekfcacaaDoorQChain2
namespace Go.Proofs.YtaidadjekfcacaaDoor
open Go.RowKit
set_option linter.unusedVariables false

theorem shS_zero (s : Sym) : shS 0 s = s := by obtain ⟨a, b⟩ := s; cases a <;> simp [shS]
theorem shR_zero (q : Rule) : shR 0 q = q := by
  obtain ⟨l, r⟩ := q
  unfold shR
  rw [show shS 0 = id from funext shS_zero, List.map_id, Int.add_zero]
theorem putAll_nil (a b : Gram) (t : Int) : putAll a t b [] = putG a t b := by
  unfold putAll putT putG
  rw [if_pos rfl, show shR 0 = id from funext shR_zero, List.map_id]
/-- What the reference says of Put: the error of the pair, then of t, then Put itself. -/
def putE (g h : Gram) (x : Int) : Int := if pairE g h = 0 ∧ (x < 0 ∨ g.terms ≤ x) then 1 else pairE g h
theorem putRR_bad {g h : Gram} {x : Int} (h0 : ¬ putE g h x = 0) : putRR g h x = (zeroG, putE g h x) := by
  unfold putE at h0 ⊢
  unfold putRR
  unfold pairE at h0 ⊢
  by_cases hf : firstE [g, h] = 0
  · by_cases ht : h.terms = g.terms
    · by_cases hx : x < 0 ∨ g.terms ≤ x
      · simp only [hf, ht, if_true, true_and, if_pos hx]
        rw [if_neg (by omega)]
      · rw [if_pos hf, if_pos ht] at h0
        rw [if_neg (fun e => hx e.2)] at h0
        exact absurd rfl h0
    · simp [hf, ht]
  · simp [hf]
theorem putRR_ok {g h : Gram} {x : Int} (h0 : putE g h x = 0) : putRR g h x = mkR (putAll g x h []) ∧ checkI g = 0 ∧ checkI h = 0 ∧ h.terms = g.terms ∧ 0 ≤ x ∧ x < g.terms := by
  unfold putE at h0
  unfold pairE at h0
  by_cases hf : firstE [g, h] = 0
  · by_cases ht : h.terms = g.terms
    · by_cases hx : x < 0 ∨ g.terms ≤ x
      · simp [hf, ht, hx] at h0
      · have hx2 : 0 ≤ x ∧ x < g.terms := by omega
        exact ⟨by unfold putRR; rw [if_pos hf, if_pos ⟨ht, hx2⟩, putAll_nil], (firstE_both hf).1, (firstE_both hf).2, ht, hx2⟩
    · simp [hf, ht] at h0
  · rw [if_neg hf] at h0
    simp [hf] at h0
theorem chain_put : ∃ cR, cR.length = 4 ∧ putRR chainG chainG 0 = (⟨2, 2, 0, cR⟩, 0) := ⟨(putG chainG 0 chainG).rules, rfl, by decide +kernel⟩
theorem valid_b {h : Gram} (hv : ValidG h) : (0 ≤ h.terms ∧ h.terms ≤ 100 ∧ 0 ≤ h.nons ∧ h.nons ≤ 100 ∧ 0 ≤ h.start ∧ h.start ≤ 100) ∧ (h.rules.length ≤ 32 ∧ ∀ q ∈ h.rules, (0 ≤ q.left ∧ q.left ≤ 100) ∧ q.right.length ≤ 4 ∧ ∀ s ∈ q.right, 0 ≤ s.n ∧ s.n ≤ 100) := by
  have h1 := hv.t1; have h2 := hv.t8; have h3 := hv.n1; have h4 := hv.n10; have h5 := hv.s0; have h6 := hv.s1
  refine ⟨by omega, hv.len, fun q hq => ?_⟩
  obtain ⟨k1, k2, k3, k4⟩ := hv.rules q hq
  refine ⟨by omega, k3, fun s hs => ?_⟩
  have k5 := k4 s hs
  split at k5 <;> omega
theorem same_true (g h : Gram) (A A' : Option Addr) (c c' : Nat) (S S' : Nat → Prop) (w : World) (e : g = h) (hc : g.rules.length ≤ c ∧ c ≤ 9223372036854775807) (hc' : h.rules.length ≤ c' ∧ c' ≤ 9223372036854775807) (hA : Els w S g.rules A) (hA' : Els w S' h.rules A') :
    Calls Tryd.prog 26 #[.agg #[.int .i64 g.terms, .int .i64 g.nons, .int .i64 g.start, .slice A g.rules.length c], .agg #[.int .i64 h.terms, .int .i64 h.nons, .int .i64 h.start, .slice A' h.rules.length c']] w fun e w' => e = .returned (.bool true) ∧ Below w.heap.size w w' :=
  (sameGram_any g h A A' c c' S S' w hc hc' hA hA').mono fun e' w' h => ⟨by rw [h.1, decide_eq_true e], h.2⟩
end Go.Proofs.YtaidadjekfcacaaDoor
