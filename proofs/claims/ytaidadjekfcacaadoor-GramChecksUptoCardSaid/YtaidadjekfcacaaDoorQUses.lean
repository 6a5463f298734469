/- Contract: gram.Uses. -/
import Derived.Test.YtaidadjekfcacaaDoorQOf
import Derived.Test.YtaidadjekfcacaaDoorQContSym
namespace Go.Proofs.YtaidadjekfcacaaDoor
open Go.RowKit
set_option linter.unusedVariables false

def usesP (n : Int) (r : Rule) : Bool := decide ((⟨false, n⟩ : Sym) ∈ r.right)
set_option maxRecDepth 100000 in
theorem uses1_any (l n : Int) (xs : List Sym) (A : Option Addr) (c G : Nat) (S : Nat → Prop) (w : World) (hm : xs.length ≤ 9223372036854775807) (hA : Els w S xs A) (g0 : w.cell? ⟨G, 0, none⟩ = some (.int .i64 n)) :
    Calls Tryd.prog 104 #[.agg #[.int .i64 l, .slice A xs.length c], .pointer (some ⟨G, 0, none⟩)] w fun e w' => e = .returned (.bool (usesP n ⟨l, xs⟩)) ∧ Below w.heap.size w w' := by
  have hG : G < w.heap.size := World.block_lt_of_cell? w _ g0
  have hb1 : Below w.heap.size w (w.alloc (.cells #[.int .i64 l, .slice A xs.length c] 61)) := (Below.refl _ _).alloc (Nat.le_refl _) _
  have HB := Lib.hid hb1
  have HA := Lib.hid (hA.below hb1)
  clear hb1 hA
  go_enter Tryd.func104, Tryd.ntmps104
  go_wp2_with fail
  refine (containsSymZ_any A xs.length c xs ⟨false, n⟩ S _ rfl hm HA.out).mono ?_
  rintro e w1 ⟨rfl, hb⟩
  have HB1 := Lib.hid (bthen HB.out hb HB.out.size)
  clear hb
  go_wp2
  go_ret
  exact ⟨rfl, HB1.out⟩

def usesL (g : Gram) (n : Int) : List Int := whereL g n (usesP n)
set_option maxRecDepth 100000 in
theorem uses_any (g : Gram) (n : Int) (A : Option Addr) (c : Nat) (S : Nat → Prop) (w : World) (hlc : g.rules.length ≤ c) (hc : c ≤ 9223372036854775807) (hA : Els w S g.rules A) :
    Calls Tryd.prog 46 #[.agg #[.int .i64 g.terms, .int .i64 g.nons, .int .i64 g.start, .slice A g.rules.length c], .int .i64 n] w (RetInts w (usesL g n) (whereE g n)) := by
  obtain ⟨t, nn, s0, rs⟩ := g
  dsimp only at *
  have hba : Below w.heap.size w ((w.alloc (.cells #[.int .i64 t, .int .i64 nn, .int .i64 s0, .slice A rs.length c] 25)).alloc (.cells #[.int .i64 n] 3)) := ((Below.refl _ _).alloc (Nat.le_refl _) _).alloc (by simp) _
  have Hba := Lib.hid hba
  have HA1 := Lib.hid (hA.below hba)
  have HG1 := Lib.hid (Blk'.new' (g := w.heap.size + 1) (w.alloc (.cells #[.int .i64 t, .int .i64 nn, .int .i64 s0, .slice A rs.length c] 25)) 3 #[.int .i64 n] (by simp))
  clear hba
  go_enter Tryd.func46, Tryd.ntmps46
  go_wp2_with fail
  refine (where_any ⟨t, nn, s0, rs⟩ n A c S _ _ _ (usesP n) hlc hc HA1.out (isGo_of Tryd.func104 (by kernel_rfl) (by kernel_rfl)) (fun x W _ hW A' c' h1 h2 h3 => uses1_any x.left n x.right A' c' (w.heap.size + 1) _ W (Nat.le_trans h1 h2) h3 ((HG1.out.below hW (by simp)).cell 0))).mono ?_
  rintro e w1 ⟨v, rfl, hown, hb1⟩
  have HO := Lib.hid hown
  have HB := Lib.hid (bthen Hba.out hb1 (by simp; omega))
  clear hown hb1
  go_wp2
  go_ret2
  exact ⟨v, rfl, HO.out.base (by simp; omega), HB.out⟩
end Go.Proofs.YtaidadjekfcacaaDoor
