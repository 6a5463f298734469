/- Contract: math/bits.TrailingZeros32, of the table that is laid. -/
import Derived.Test.YtnlpeiffbnlncaaDoorQp1
import Derived.Test.YtnlpeiffbnlncaaDoorChecked
import Derived.Lib.TrailingZeros
import Derived.Lib.LaidTab
import Derived.Laws.BitsAllLaws
namespace Go.Proofs.YtnlpeiffbnlncaaDoor
open Go.RowKit
set_option linter.unusedVariables false

/-- The table in its variable. -/
def Tab32 (w : World) : Prop := 0 < w.heap.size ∧ ∀ j, j < 32 → w.cell? ⟨0, j, none⟩ = some (.int .u8 ((Lib.deBruijn32tab.getD j 0 : Nat) : Int))
theorem Tab32.below {w w' : World} {B : Nat} (h : Tab32 w) (hb : Below B w w') (hB : 0 < B) : Tab32 w' :=
  ⟨Nat.lt_of_lt_of_le h.1 hb.size, fun j hj => (hb.cell (p := ⟨0, j, none⟩) hB).trans (h.2 j hj)⟩
theorem Tab32.drew {w : World} (h : Tab32 w) : Tab32 w.drew := h
/-- From the row's condition. -/
theorem Tab32.of_laid {w : World} (h : laidMet Tryd.prog [("math/bits.deBruijn32tab", Lib.tabData .u8 (Lib.deBruijn32tab.map fun x : Nat => (x : Int)))] w) : Tab32 w := by
  obtain ⟨ps, ⟨g0, t0, cs0, f0, p0, q0, hg0, ht0, hv0, hd0, _, _⟩, _, _⟩ := h
  obtain rfl := Option.some.inj ((show Tryd.prog.globalNamed "math/bits.deBruijn32tab" = some 0 by kernel_rfl).symm.trans hg0)
  obtain rfl := Option.some.inj ((show (Tryd.prog.globals[0]?).map (·.type) = some 205 by kernel_rfl).symm.trans ht0)
  have hcs := Lib.cells_of_tab Tryd.underlying205 Tryd.underlying5 (by kernel_rfl) (by kernel_rfl) hd0
  have hc : ∀ j, j < 32 → w.cell? ⟨0, j, none⟩ = some (.int .u8 ((Lib.deBruijn32tab.getD j 0 : Nat) : Int)) := fun j hj => by
    rw [World.var?_cell hg0 hv0 j, ← Array.getElem?_toList, hcs]
    have h2 : ∀ j, j < 32 → ((Lib.deBruijn32tab.map fun x : Nat => (x : Int)).map fun z => Value.int .u8 z)[j]? = some (.int .u8 ((Lib.deBruijn32tab.getD j 0 : Nat) : Int)) := by
      intro j hj
      rw [List.getElem?_map, List.getElem?_map, List.getD_eq_getElem?_getD]
      have hl : j < Lib.deBruijn32tab.length := hj
      rw [List.getElem?_eq_getElem hl]
      rfl
    exact h2 j hj
  exact ⟨World.block_lt_of_cell? w _ (hc 0 (by omega)), hc⟩

theorem tz_key (x a : Nat) (hx : x < 4294967296) (hx0 : x ≠ 0) (hlow : x &&& (4294967296 - x) = a) :
    bits BinOp.and IntKind.u32 (x : Int) (-(x : Int) % 4294967296) * 125613361 % 4294967296 / 134217728 = ((a * 125613361 % 4294967296 / 134217728 : Nat) : Int) := by
  have e1 : -(x : Int) % 4294967296 = ((4294967296 - x : Nat) : Int) := by omega
  rw [e1, u32_and_nat x _ hx (by omega), hlow]
  omega
set_option maxHeartbeats 1000000 in
theorem tz_core (x k idx : Nat) (w : World) (hx0 : ((x : Int) == 0) = false)
    (key : bits BinOp.and IntKind.u32 (x : Int) (-(x : Int) % 4294967296) * 125613361 % 4294967296 / 134217728 = (idx : Int))
    (hi : idx < 32) (hk : k < 32) (hcell : w.cell? ⟨0, idx, none⟩ = some (.int .u8 k)) :
    Calls Tryd.prog 122 #[.int .u32 x] w fun e w' => e = .returned (.int .i64 k) ∧ w = w' := by
  go_enter Tryd.func122, Tryd.ntmps122
  go_wp2_with (simp only [key])
  go_ret
  exact ⟨rfl, rfl⟩
theorem tz_any (x : Nat) (hx : x < 4294967296) (hx0 : x ≠ 0) (w : World) (hT : Tab32 w) :
    Calls Tryd.prog 122 #[.int .u32 x] w fun e w' => e = .returned (.int .i64 ((Lib.ctz 32 x : Nat) : Int)) ∧ w = w' := by
  obtain ⟨hlow, hk⟩ := Lib.lowest_bit 32 x hx0 hx
  obtain ⟨hi, htab⟩ := Lib.deBruijn32_at _ hk
  have hcell := hT.2 _ hi
  rw [htab] at hcell
  exact tz_core x _ _ w (by simp; omega) (tz_key x _ hx hx0 hlow) hi hk hcell
end Go.Proofs.YtnlpeiffbnlncaaDoor
