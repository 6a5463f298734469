/- Contract: the closure of parlkeep2.Operators that reads a choice. -/
import Derived.Test.YtnphbbhnfkjlcaaQMake
import Derived.Test.YtnphbbhnfkjlcaaQp1
namespace Go.Proofs.Ytnphbbhnfkjlcaa
open Go.RowKit
set_option linter.unusedVariables false

def RetAt (l : List Int) (n : Int) (w : World) (e : Ending) (w' : World) : Prop := ∃ r : Int, 0 ≤ r ∧ r < n ∧ (l = [] → r = 0) ∧ e = .returned (.int .i64 r) ∧ w = w'
set_option maxRecDepth 100000 in
theorem at_any (l : List Int) (b : Nat) (A : Option Addr) (c : Nat) (S : Nat → Prop) (i n : Int) (w : World) (h0 : 0 ≤ i) (h9 : i ≤ 1000) (hn : 1 ≤ n) (hn' : n ≤ 1000000000) (hlc : l.length ≤ c) (hc : c ≤ 9223372036854775807) (hB : Blk' w b 38 #[.slice A l.length c]) (hA : Els w S l A) :
    Calls Try.prog 67 #[.int .i64 i, .int .i64 n, .pointer (some ⟨b, 0, none⟩)] w (RetAt l n w) := by
  have b0 : w.cell? ⟨b, 0, none⟩ = some (.slice A l.length c) := hB.cell 0
  have zb := hB.lt
  clear hB
  by_cases hi : i < (l.length : Int)
  · obtain ⟨x, hx⟩ := get_some (show i.toNat < l.length by omega)
    obtain ⟨bx, ox, rfl, hSx, hbx, hxi, hxc⟩ := hA.int hx
    have HX := Lib.hid (And.intro hxi hx)
    have HN := Lib.hid (And.intro hn hn')
    clear hA hx hn hn' hxi
    go_enter Try.func67, Try.ntmps67
    go_wp2_with fail
    refine (below_any x n _ HX.out.1 HN.out.1 HN.out.2).mono ?_
    rintro e w1 ⟨r, hr0, hr1, rfl, rfl⟩
    go_wp2
    go_ret
    exact ⟨r, hr0, hr1, fun h => by have := HX.out.2; rw [h] at this; simp at this, rfl, rfl⟩
  · clear hA
    go_enter Try.func67, Try.ntmps67
    go_wp2
    go_ret
    exact ⟨0, Int.le_refl _, by omega, fun _ => rfl, rfl, rfl⟩
end Go.Proofs.Ytnphbbhnfkjlcaa
