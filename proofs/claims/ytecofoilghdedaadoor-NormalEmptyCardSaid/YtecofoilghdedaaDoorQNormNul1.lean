/- Contract: the closure of normal.makeForm: a nonterminal does not become nothing. -/
import Derived.Test.YtecofoilghdedaaDoorQNormSym
import Derived.Test.YtecofoilghdedaaDoorQp1
import Derived.Test.YtecofoilghdedaaDoorQIdxInt
namespace Go.Proofs.YtecofoilghdedaaDoor
open Go.RowKit
set_option linter.unusedVariables false

theorem nul1_go : IsGo 104 := isGo_of Tryd.func104 (by kernel_rfl) (by kernel_rfl)
set_option maxRecDepth 100000 in
set_option maxHeartbeats 1000000 in
theorem nul1_any (FB P NB N : Nat) (nb : List Bool) (x : Int) (w : World) (hF : w.cell? ⟨FB, 0, none⟩ = some (.pointer (some ⟨P, 0, none⟩))) (hP : w.cell? ⟨P, 8, none⟩ = some (.slice (some ⟨NB, 0, none⟩) N N)) (hNB : Blk' w NB 4 (bcells nb)) (hl : nb.length = N) (h0 : 0 ≤ x ∧ x < (N : Int)) (hz : FB < w.heap.size ∧ P < w.heap.size) (hN : N ≤ 1000) :
    Calls Tryd.prog 104 (#[.int .i64 x] ++ #[.pointer (some ⟨FB, 0, none⟩)]) w fun e w' => e = .returned (.bool (!nbAt nb x)) ∧ Below w.heap.size w w' := by
  obtain ⟨k, rfl⟩ : ∃ k : Nat, x = (k : Int) := ⟨x.toNat, by omega⟩
  obtain ⟨b, hb⟩ := get_some (show k < nb.length by omega)
  have e : nbAt nb (k : Int) = b := by unfold nbAt; rw [List.getD_eq_getElem?_getD, Int.toNat_natCast, hb]; rfl
  rw [e]
  have c0 : w.cell? ⟨NB, k, none⟩ = some (.bool b) := (hNB.cell _).trans (bcells_get hb)
  have z0 := hNB.lt
  have z1 := hz.1
  have z2 := hz.2
  have HB := Lib.hid (Below.refl w.heap.size w)
  have hk : (k : Int) < (N : Int) := by omega
  show Calls Tryd.prog 104 #[.int .i64 (k : Int), .pointer (some ⟨FB, 0, none⟩)] w _
  clear hNB hl hb e hz
  go_enter Tryd.func104, Tryd.ntmps104
  go_wp2
  go_ret
  exact ⟨rfl, HB.out⟩
end Go.Proofs.YtecofoilghdedaaDoor
