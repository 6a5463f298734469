/- prec.brackets: whether a table has parentheses. -/
import Derived.Test.YtpcjfgikicpioaaQOrd
import Derived.Test.YtpcjfgikicpioaaQp1
namespace Go.Proofs.Ytpcjfgikicpioaa
open Go.RowKit

theorem brackets_any (w : World) (a b o c : Int) (ls : List Level) (v : Value) (hv : ∃ A k c, v = .slice A k c) :
    Calls Try.prog 43 #[.agg #[.int .i64 a, .int .i64 b, .int .i64 o, .int .i64 c, v]] w fun e w' => e = .returned (.bool (brk ⟨a, b, o, c, ls⟩)) ∧ Below w.heap.size w w' := by
  obtain ⟨A, k, cp, rfl⟩ := hv
  have hb : ∀ o1, Below w.heap.size w (w.alloc o1) := fun o1 => (Below.refl _ _).alloc (Nat.le_refl _) _
  by_cases k1 : o = -1
  · subst k1
    by_cases k2 : c = -1
    · have E := Lib.hid (show brk ⟨a, b, -1, c, ls⟩ = false by simp [brk, k2])
      go_enter Try.func43, Try.ntmps43
      go_wp2
      go_ret
      exact ⟨ret_bool E.out.symm, hb _⟩
    · have E := Lib.hid (show brk ⟨a, b, -1, c, ls⟩ = true by simp [brk, k2])
      go_enter Try.func43, Try.ntmps43
      go_wp2
      go_ret
      exact ⟨ret_bool (by rw [E.out]; simpa using k2), hb _⟩
  · have E := Lib.hid (show brk ⟨a, b, o, c, ls⟩ = true by simp [brk, k1])
    go_enter Try.func43, Try.ntmps43
    go_wp2
    go_ret
    exact ⟨ret_bool E.out.symm, hb _⟩
end Go.Proofs.Ytpcjfgikicpioaa
