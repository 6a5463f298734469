/- Pairs of ints ([2]int) read. -/
import Derived.Test.YtpkfalhpkkponaaElem
namespace Go.Proofs.Ytpkfalhpkkponaa
open Go.RowKit
set_option linter.unusedVariables false
instance instDatPair : Dat (Int × Int) where
  size := 2
  wraps := true
  rd _ _ n cs := cs = [.int .i64 n.1, .int .i64 n.2] ∧ I64 n.1 ∧ I64 n.2
  len h := by rw [h.1]; rfl
  pos := by decide
  flat h := by simp at h
  one h := by rw [h.1]; intro u hu; simp at hu; rcases hu with rfl | rfl <;> rfl
  keep _ _ h := h
theorem infoPair : (Try.prog.info? 127).map (fun i => (i.zero, i.size, i.bytes)) = some (some (.agg #[.int .i64 0, .int .i64 0]), 2, 16) := by kernel_rfl
theorem elemPair : ElemT Try.prog (Int × Int) 125 127 16 := by obtain ⟨i, h1, h2, h3, h4⟩ := info_parts infoPair; exact ⟨i, _, Try.underlying125, h1, h2, h3, h4, rfl⟩
theorem Els.pair {w : World} {S : Nat → Prop} {A : Option Addr} {k : Nat} {xs : List (Int × Int)} {x : Int × Int} (h : Els w S xs A) (hk : xs[k]? = some x) :
    ∃ b o, A = some ⟨b, o, none⟩ ∧ S b ∧ b < w.heap.size ∧ (I64 x.1 ∧ I64 x.2) ∧ w.cell? ⟨b, o + k * 2, none⟩ = some (.int .i64 x.1) ∧ w.cell? ⟨b, o + k * 2 + 1, none⟩ = some (.int .i64 x.2) := by
  obtain ⟨b, o, cs, hA, hS, hb, ⟨rfl, h1⟩, hc⟩ := h.at_ hk
  exact ⟨b, o, hA, hS, hb, h1, hc.c0, hc.c1⟩
end Go.Proofs.Ytpkfalhpkkponaa
