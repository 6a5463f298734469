/- Contract: useful.Reached, of a valid grammar. -/
import Derived.Test.YtpkfalhpkkponaaDoorUsefulRea
import Derived.Test.YtpkfalhpkkponaaDoorValid
namespace Go.Proofs.YtpkfalhpkkponaaDoor
open Go.RowKit
set_option linter.unusedVariables false

theorem ValidG.rulesIn {g : Gram} (h : ValidG g) {n : Nat} (hn : g.nons = (n : Int)) : RulesIn g n := fun q hq => by
  obtain ⟨h1, h2, h3, h4⟩ := h.rules q hq
  refine ⟨h1, by omega, h3, fun s hs => ⟨(h4 s hs).1, fun ht => ?_⟩⟩
  have := (h4 s hs).2
  rw [ht] at this
  simp at this
  have := (h4 s hs).1
  omega

def RetReas (g : Gram) (n : Nat) (w : World) (e : Ending) (w' : World) : Prop :=
  ∃ b s, e = .returned (.tuple #[.slice (some ⟨b, 0, none⟩) n n, .int .i64 0]) ∧ RFix g (fun _ => true) n s ∧ Blk' w' b 4 (bcells s) ∧ w.heap.size ≤ b ∧ Below w.heap.size w w'
theorem reached1_any (l : Int) (sl : Value) (w : World) (hsl : ∃ A k c, sl = .slice A k c) : Calls Tryd.prog 66 #[.agg #[.int .i64 l, sl]] w fun e w' => e = .returned (.bool true) ∧ Below w.heap.size w w' := by
  obtain ⟨A, k, c, rfl⟩ := hsl
  go_enter Tryd.func66, Tryd.ntmps66
  go_wp2
  go_ret
  exact ⟨rfl, (Below.refl _ _).alloc (Nat.le_refl _) _⟩

set_option maxRecDepth 100000 in
theorem reachedPub_any (g : Gram) (n : Nat) (A : Option Addr) (c : Nat) (S : Nat → Prop) (w : World) (hgn : g.nons = (n : Int)) (hck : checkI g = 0) (hlc : g.rules.length ≤ c) (hc : c ≤ 9223372036854775807) (hA : Els w S g.rules A) (hS : ∀ b, S b → b < w.heap.size) :
    Calls Tryd.prog 28 #[.agg #[.int .i64 g.terms, .int .i64 g.nons, .int .i64 g.start, .slice A g.rules.length c]] w (RetReas g n w) := by
  have hv := validG_of hck
  have hri := hv.rulesIn hgn
  obtain ⟨gt, gn, gs, rs⟩ := g
  dsimp only at *
  subst hgn
  have hn1 : n ≤ 10 ∧ 0 ≤ gs ∧ gs.toNat < n := by have := hv.n10; have := hv.s0; have := hv.s1; dsimp only at *; omega
  have HRI := Lib.hid hri
  have HA := Lib.hid hA
  have HS := Lib.hid hS
  have HC := Lib.hid hck
  have HN := Lib.hid hn1
  have HB0 : Hid (Below w.heap.size w (w.alloc (.cells #[.int .i64 gt, .int .i64 (n : Int), .int .i64 gs, .slice A rs.length c] 25))) := Lib.hid ((Below.refl _ _).alloc (Nat.le_refl _) _)
  clear hv hri hA hS hck hn1
  go_enter Tryd.func28, Tryd.ntmps28
  go_wp2_with fail
  refine (check_any ⟨gt, (n : Int), gs, rs⟩ A c S _ hlc hc (HA.out.below HB0.out)).mono ?_
  rintro e w1 ⟨rfl, hb1⟩
  rw [HC.out]
  have hG := (Blk'.new w 25 #[.int .i64 gt, .int .i64 (n : Int), .int .i64 gs, .slice A rs.length c]).below hb1 (by simp)
  have g0 : w1.cell? ⟨w.heap.size, 0, none⟩ = some (.int .i64 gt) := hG.cell 0
  have g1 : w1.cell? ⟨w.heap.size, 1, none⟩ = some (.int .i64 (n : Int)) := hG.cell 1
  have g2 : w1.cell? ⟨w.heap.size, 2, none⟩ = some (.int .i64 gs) := hG.cell 2
  have g3 : w1.cell? ⟨w.heap.size, 3, none⟩ = some (.slice A rs.length c) := hG.cell 3
  have HB1 := Lib.hid (bthen HB0.out hb1 (by simp))
  clear hb1 hG
  go_wp2_with fail
  refine (reached_any ⟨gt, (n : Int), gs, rs⟩ (fun _ => true) _ #[] n A c S _ rfl (by have := HN.out; omega) HN.out.2 hlc hc (HA.out.below HB1.out) (fun b hb => by have := HS.out b hb; have := HB1.out.size; omega) HRI.out (isGo_of Tryd.func66 (by kernel_rfl) (by kernel_rfl)) (fun x W _ _ A' c' _ _ _ => reached1_any x.left _ W ⟨_, _, _, rfl⟩)).mono ?_
  rintro e w2 ⟨b, s, rfl, hfix, hL, hge, hb2⟩
  have H2 := Lib.hid (And.intro hfix (And.intro hL (And.intro hge (bthen HB1.out hb2 HB1.out.size))))
  have hz := HB1.out.size
  clear hfix hL hge hb2 g0 g1 g2 g3
  go_wp2
  go_ret2
  exact ⟨b, s, rfl, H2.out.1, H2.out.2.1, by have := H2.out.2.2.1; omega, H2.out.2.2.2⟩
end Go.Proofs.YtpkfalhpkkponaaDoor
