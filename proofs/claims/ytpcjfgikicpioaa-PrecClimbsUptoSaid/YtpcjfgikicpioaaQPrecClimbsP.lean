/- Plain laws of PrecClimbs: the reference's answer is the climber's. No program is named here. -/
import Derived.Test.YtpcjfgikicpioaaQp2
import Derived.Test.YtpcjfgikicpioaaQp1
import Derived.Test.YtpcjfgikicpioaaQPrecPlus
namespace Go.Proofs.Ytpcjfgikicpioaa
set_option linter.unusedVariables false

theorem plus_rej : ParE plusT [0, 1] 0 0 (.rej 2) := by
  refine ⟨3, ?_⟩
  refine .inf ⟨1, [1]⟩ rfl (by decide) ⟨0, 0, [leafT plusT.atom]⟩ 1 ?_ _ ?_
  · exact .opd rfl _ (.atom (by decide) rfl)
  · refine .rej _ 1 2 1 rfl (by simp) ?_
    exact .opd rfl _ (.none (by decide) (by decide))
/-- What ClimbOf returns where there is no tree. -/
structure Long (t : Table) (l : List Int) (n : Nat) : Prop where
  none : ∀ x, ¬ Lv t 0 x l
  le : n ≤ l.length
  all : ∀ m, 1 ≤ m → m ≤ n → Comp t 0 (l.take m)
  stop : n < l.length → ¬ Comp t 0 (l.take (n + 1))
theorem long_eq {t : Table} (hv : Valid t) {w : List Int} {q n : Nat} {r : Res} (h : ParE t w 0 0 r) (hr : RejAt w q r) (hl : Long t w n) : q = n := by
  have hq := rej_le h hr
  have hn := hl.le
  rcases Nat.lt_trichotomy q n with h1 | h1 | h1
  · exact absurd (hl.all (q + 1) (by omega) h1) (rej_stop hv h hr (by omega))
  · exact h1
  · exact absurd (rej_comp hv h hr (show n + 1 ≤ q from h1)) (hl.stop (by omega))
end Go.Proofs.Ytpcjfgikicpioaa
