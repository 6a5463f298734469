/- Contract: slices.Clone at nodes of a forest. -/
import Derived.Test.YtnlpeiffbnlncaaDoorQp1
import Derived.Lib.SliceRun
import Derived.Deep.Cut
namespace Go.Proofs.YtnlpeiffbnlncaaDoor
open Go.RowKit
set_option linter.unusedVariables false

theorem Own.keyS {w : World} {S S' : Nat → Prop} {base : Nat} {e : TypeId} {v : Value} {xs : List NKey} (h : Own w S base e v xs) : Own w S' base e v xs := by
  obtain ⟨css, h1, h2, h3⟩ := h
  exact ⟨css, h1, h2, fun i x cs hi hc => h3 i x cs hi hc⟩
set_option maxRecDepth 100000 in
set_option maxHeartbeats 2000000 in
theorem cloneKey_any (l : List NKey) (A : Option Addr) (c n : Nat) (S : Nat → Prop) (w : World) (hl : n = l.length) (hm : l.length ≤ 1000000) (hA : Els w S l A) (hS : ∀ b, S b → b < w.heap.size) :
    Calls Tryd.prog 121 #[.slice A n c] w fun e w' => ∃ (A' : Option Addr) (c' : Nat), e = .returned (.slice A' l.length c') ∧ n ≤ c' ∧ c' ≤ 9223372036854775807 ∧ Own w' (fun _ => False) w.heap.size 160 (.slice A' l.length c') l ∧ Below w.heap.size w w' := by
  subst hl
  have HA := Lib.hid hA
  have HS := Lib.hid hS
  have q22 : ∀ (w : World) (a : Option Addr) (n c n' c' : Nat), (binOp .eql 164 (.slice a n c) (.slice none n' c')).run Tryd.prog w = .ok (.bool a.isNone) w := fun w a n c n' c' => Lib.run_eql_slice_nil w _ _ a n c n' c' Tryd.underlying164
  clear hA hS
  cases A with
  | none =>
    have hl0 : l = [] := by
      cases l with
      | nil => rfl
      | cons x xs => obtain ⟨_, _, e, _⟩ := HA.out (by simp); simp at e
    subst hl0
    have hb := Lib.hid (Below.refl w.heap.size w)
    go_enter Tryd.func121, Tryd.ntmps121
    go_wp2
    go_ret
    exact ⟨none, 0, rfl, Nat.le_refl _, by omega, Own.nil _ _ _ _, hb.out⟩
  | some a =>
    have HB1 := Lib.hid ((Below.refl w.heap.size w).alloc (Nat.le_refl _) (.cells #[] 160))
    have HO := Lib.hid (Own.made (α := NKey) (w := w) (fun b => b < w.heap.size) (base := w.heap.size) (e := 160) (cur := #[]) (cap := 0) (Nat.le_refl _) (by omega) rfl)
    have HE := Lib.hid ((HA.out.below HB1.out).keep (S' := OwnT (fun b => b < w.heap.size) w.heap.size (.slice (some ⟨w.heap.size, 0, none⟩) 0 0) (w.alloc (.cells #[] 160))) (fun _ _ _ => rfl) (fun b hb => by
      have h1 := HS.out b hb
      exact ⟨.inl h1, by simp [Value.ownBlock]; omega, by simp; omega⟩))
    go_enter Tryd.func121, Tryd.ntmps121
    go_wp2_with (at_builtin; refine wpList_ownMany _ rfl _ _ elemNKey rfl rfl HO.out l rfl rfl HE.out (by simp; omega) (by simp; omega) (by simp) ?_; intro v' w' hown' hg' _)
    obtain ⟨A', c', rfl, h1, h2, h3⟩ := hown'.form
    have HF := Lib.hid hown'
    have HBl := Lib.hid (bgrown HB1.out hg' HO.out (Nat.le_refl _) (by simp))
    have HN := Lib.hid (And.intro h1 h2)
    clear hown' hg' h1 h2 h3
    go_wp2
    go_ret
    exact ⟨A', c', by simp, by have := HN.out.1; simpa using this, HN.out.2, (by have := HF.out; simpa using this : Own _ _ _ _ _ l).keyS, HBl.out⟩
end Go.Proofs.YtnlpeiffbnlncaaDoor
