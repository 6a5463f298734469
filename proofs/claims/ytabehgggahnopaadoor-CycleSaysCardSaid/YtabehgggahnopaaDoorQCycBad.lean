/- Contracts: what some functions answer of an invalid grammar. -/
import Derived.Test.YtabehgggahnopaaDoorQValid
import Derived.Test.YtabehgggahnopaaDoorQCheck
namespace Go.Proofs.YtabehgggahnopaaDoor
open Go.RowKit
set_option linter.unusedVariables false

set_option maxRecDepth 100000 in
set_option maxHeartbeats 1000000 in
theorem cyclic_bad (g : Gram) (A : Option Addr) (c : Nat) (S : Nat → Prop) (w : World) (hck : ¬ checkI g = 0) (hlc : g.rules.length ≤ c) (hc : c ≤ 9223372036854775807) (hA : Els w S g.rules A) :
    Calls Tryd.prog 32 #[.agg #[.int .i64 g.terms, .int .i64 g.nons, .int .i64 g.start, .slice A g.rules.length c]] w fun e w' => e = .returned (.tuple #[.slice none 0 0, .int .i64 (checkI g)]) ∧ Below w.heap.size w w' := by
  obtain ⟨gt, gn, gs, rs⟩ := g
  dsimp only at *
  have HB0 : Hid (Below w.heap.size w (w.alloc (.cells #[.int .i64 gt, .int .i64 gn, .int .i64 gs, .slice A rs.length c] 25))) := Lib.hid ((Below.refl _ _).alloc (Nat.le_refl _) _)
  have HA := Lib.hid hA
  clear hA
  go_enter Tryd.func32, Tryd.ntmps32
  go_wp2_with fail
  refine (check_any ⟨gt, gn, gs, rs⟩ A c S _ hlc hc (HA.out.below HB0.out)).mono ?_
  rintro e w1 ⟨rfl, hb1⟩
  have HB1 := Lib.hid (bthen HB0.out hb1 HB0.out.size)
  have hce' : (checkI ⟨gt, gn, gs, rs⟩ != 0) = true := by simpa using hck
  obtain ⟨ce, hE⟩ : ∃ ce, checkI ⟨gt, gn, gs, rs⟩ = ce := ⟨_, rfl⟩
  rw [hE] at hce'
  rw [hE]
  have HE := Lib.hid hE
  clear hE hb1 hck
  go_wp2
  go_ret2
  exact ⟨by rw [HE.out]; rfl, HB1.out⟩

set_option maxRecDepth 100000 in
set_option maxHeartbeats 1000000 in
theorem loops_bad (g : Gram) (A : Option Addr) (c : Nat) (S : Nat → Prop) (w : World) (hck : ¬ checkI g = 0) (hlc : g.rules.length ≤ c) (hc : c ≤ 9223372036854775807) (hA : Els w S g.rules A) :
    Calls Tryd.prog 33 #[.agg #[.int .i64 g.terms, .int .i64 g.nons, .int .i64 g.start, .slice A g.rules.length c]] w fun e w' => e = .returned (.tuple #[.slice none 0 0, .int .i64 (checkI g)]) ∧ Below w.heap.size w w' := by
  obtain ⟨gt, gn, gs, rs⟩ := g
  dsimp only at *
  have HB0 : Hid (Below w.heap.size w (w.alloc (.cells #[.int .i64 gt, .int .i64 gn, .int .i64 gs, .slice A rs.length c] 25))) := Lib.hid ((Below.refl _ _).alloc (Nat.le_refl _) _)
  have HA := Lib.hid hA
  clear hA
  go_enter Tryd.func33, Tryd.ntmps33
  go_wp2_with fail
  refine (check_any ⟨gt, gn, gs, rs⟩ A c S _ hlc hc (HA.out.below HB0.out)).mono ?_
  rintro e w1 ⟨rfl, hb1⟩
  have HB1 := Lib.hid (bthen HB0.out hb1 HB0.out.size)
  have hce' : (checkI ⟨gt, gn, gs, rs⟩ != 0) = true := by simpa using hck
  obtain ⟨ce, hE⟩ : ∃ ce, checkI ⟨gt, gn, gs, rs⟩ = ce := ⟨_, rfl⟩
  rw [hE] at hce'
  rw [hE]
  have HE := Lib.hid hE
  clear hE hb1 hck
  go_wp2
  go_ret2
  exact ⟨by rw [HE.out]; rfl, HB1.out⟩

set_option maxRecDepth 100000 in
set_option maxHeartbeats 1000000 in
theorem left_bad (g : Gram) (A : Option Addr) (c : Nat) (S : Nat → Prop) (w : World) (hck : ¬ checkI g = 0) (hlc : g.rules.length ≤ c) (hc : c ≤ 9223372036854775807) (hA : Els w S g.rules A) :
    Calls Tryd.prog 29 #[.agg #[.int .i64 g.terms, .int .i64 g.nons, .int .i64 g.start, .slice A g.rules.length c]] w fun e w' => e = .returned (.tuple #[.slice none 0 0, .int .i64 (checkI g)]) ∧ Below w.heap.size w w' := by
  obtain ⟨gt, gn, gs, rs⟩ := g
  dsimp only at *
  have HB0 : Hid (Below w.heap.size w (w.alloc (.cells #[.int .i64 gt, .int .i64 gn, .int .i64 gs, .slice A rs.length c] 25))) := Lib.hid ((Below.refl _ _).alloc (Nat.le_refl _) _)
  have HA := Lib.hid hA
  clear hA
  go_enter Tryd.func29, Tryd.ntmps29
  go_wp2_with fail
  refine (check_any ⟨gt, gn, gs, rs⟩ A c S _ hlc hc (HA.out.below HB0.out)).mono ?_
  rintro e w1 ⟨rfl, hb1⟩
  have HB1 := Lib.hid (bthen HB0.out hb1 HB0.out.size)
  have hce' : (checkI ⟨gt, gn, gs, rs⟩ != 0) = true := by simpa using hck
  obtain ⟨ce, hE⟩ : ∃ ce, checkI ⟨gt, gn, gs, rs⟩ = ce := ⟨_, rfl⟩
  rw [hE] at hce'
  rw [hE]
  have HE := Lib.hid hE
  clear hE hb1 hck
  go_wp2
  go_ret2
  exact ⟨by rw [HE.out]; rfl, HB1.out⟩

end Go.Proofs.YtabehgggahnopaaDoor
