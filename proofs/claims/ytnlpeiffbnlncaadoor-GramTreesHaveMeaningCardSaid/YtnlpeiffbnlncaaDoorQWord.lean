/- Contract: gram.Word. -/
import Derived.Test.YtnlpeiffbnlncaaDoorQIdxInt
import Derived.Deep.QuietTactic
import Derived.BigQuiet
namespace Go.Proofs.YtnlpeiffbnlncaaDoor
open Go.RowKit
set_option linter.unusedVariables false

def wordBad (tm : Int) (x : Int) : Bool := decide (x < 0) || decide (tm ≤ x)
def wordE (tm : Int) (l : List Int) (most : Int) : Int := if most < (l.length : Int) then 2 else if l.any (wordBad tm) then 1 else 0
theorem word_go : IsGo 98 := isGo_of Tryd.func98 (by kernel_rfl) (by kernel_rfl)
theorem word1_any (G : Nat) (tm x : Int) (w : World) (hG : w.cell? ⟨G, 0, none⟩ = some (.int .i64 tm)) :
    Calls Tryd.prog 98 #[.int .i64 x, .pointer (some ⟨G, 0, none⟩)] w fun e w' => e = .returned (.bool (wordBad tm x)) ∧ Below w.heap.size w w' := by
  have hb := Lib.hid (Below.refl w.heap.size w)
  by_cases hx : x < 0
  · have hE := Lib.hid (show wordBad tm x = true by simp [wordBad, hx])
    go_enter Tryd.func98, Tryd.ntmps98
    go_wp2
    go_ret
    exact ⟨ret_bool hE.out.symm, hb.out⟩
  · have hx' : decide (x < 0) = false := by simp; omega
    have hE := Lib.hid (show wordBad tm x = decide (tm ≤ x) by simp [wordBad, hx])
    go_enter Tryd.func98, Tryd.ntmps98
    go_wp2
    go_ret
    exact ⟨ret_bool hE.out.symm, hb.out⟩

set_option maxRecDepth 100000 in
set_option maxHeartbeats 1000000 in
theorem word_any (tm a b most : Int) (v : Value) (l : List Int) (B : Option Addr) (d : Nat) (S : Nat → Prop) (w : World) (hn : l.length ≤ 9223372036854775807) (hB : Els w S l B) (hS : ∀ b, S b → b < w.heap.size) (hv : ∃ A n c, v = .slice A n c) :
    Calls Tryd.prog 72 #[.agg #[.int .i64 tm, .int .i64 a, .int .i64 b, v], .slice B l.length d, .int .i64 most] w fun e w' => e = .returned (.int .i64 (wordE tm l most)) ∧ Below w.heap.size w w' := by
  obtain ⟨A, n, c, rfl⟩ := hv
  have hba : Below w.heap.size w (w.alloc (.cells #[.int .i64 tm, .int .i64 a, .int .i64 b, .slice A n c] 25)) := (Below.refl _ _).alloc (Nat.le_refl _) _
  have HBa := Lib.hid hba
  have HG := Lib.hid (Blk'.new w 25 #[.int .i64 tm, .int .i64 a, .int .i64 b, .slice A n c])
  have HB := Lib.hid (hB.below hba)
  clear hba hB
  by_cases hm : most < (l.length : Int)
  · have hE := Lib.hid (show wordE tm l most = 2 by unfold wordE; rw [if_pos hm])
    go_enter Tryd.func72, Tryd.ntmps72
    go_wp2
    go_ret
    exact ⟨ret_int hE.out.symm, HBa.out⟩
  · have hm' : ¬ most < (l.length : Int) := hm
    have hmf : ∀ (fn : Fn) (first cap : Array Value) (w : World), (Instr.makeFunc fn first cap).run Tryd.prog w = .ok (.func fn first cap) w := fun _ _ _ _ => rfl
    have hE := Lib.hid (show wordE tm l most = if l.any (wordBad tm) then 1 else 0 by unfold wordE; rw [if_neg hm])
    go_enter Tryd.func72, Tryd.ntmps72
    go_wp2_with fail
    refine (contInt_any B d l S _ 98 #[.pointer (some ⟨w.heap.size, 0, none⟩)] (wordBad tm) hn HB.out word_go (fun x W _ hW => word1_any _ tm x W ((HG.out.below hW HG.out.lt).cell 0))).mono ?_
    rintro e w1 ⟨rfl, hb1⟩
    have HB1 := Lib.hid (bthen HBa.out hb1 HBa.out.size)
    clear hb1
    cases hany : l.any (wordBad tm)
    all_goals
      rw [hany] at hE
      go_wp2
      go_ret
      exact ⟨ret_int hE.out.symm, HB1.out⟩
end Go.Proofs.YtnlpeiffbnlncaaDoor
