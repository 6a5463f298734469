/- Contracts: the predicate of useful.Trim (no part without a word). -/
import Derived.Test.YtnlpeiffbnlncaaDoorQIntRow
import Derived.Test.YtnlpeiffbnlncaaDoorQw1
import Derived.Test.YtnlpeiffbnlncaaDoorQp2
import Derived.Test.YtnlpeiffbnlncaaDoorQp1
namespace Go.Proofs.YtnlpeiffbnlncaaDoor
open Go.RowKit
set_option linter.unusedVariables false

/-- The table of lengths, in its box. -/
def LBox (w : World) (B L n : Nat) (l : List Int) : Prop := Blk' w B 22 #[.slice (some ⟨L, 0, none⟩) n n] ∧ Blk' w L 3 (icells l) ∧ l.length = n
theorem LBox.below {w w' : World} {B L n : Nat} {l : List Int} (h : LBox w B L n l) (hb : Below w.heap.size w w') : LBox w' B L n l := ⟨h.1.below hb h.1.lt, h.2.1.below hb h.2.1.lt, h.2.2⟩
theorem LBox.kept {X : Nat → Prop} {w w' : World} {B L n : Nat} {l : List Int} (h : LBox w B L n l) (k : Kept X w w') (h1 : ¬ X B) (h2 : ¬ X L) : LBox w' B L n l := ⟨h.1.kept k h1, h.2.1.kept k h2, h.2.2⟩
theorem LBox.lt {w : World} {B L n : Nat} {l : List Int} (h : LBox w B L n l) : B < w.heap.size ∧ L < w.heap.size := ⟨h.1.lt, h.2.1.lt⟩

set_option maxRecDepth 100000 in
theorem use1_any (B L n : Nat) (l : List Int) (x : Sym) (w : World) (h : LBox w B L n l) (hn : n ≤ 1000000) (hx : 0 ≤ x.n ∧ (x.term = false → x.n.toNat < n)) :
    Calls Tryd.prog 51 #[.agg #[.bool x.term, .int .i64 x.n], .pointer (some ⟨B, 0, none⟩)] w fun e w' => e = .returned (.bool (!x.term && decide (l.getD x.n.toNat 0 < 0))) ∧ Below w.heap.size w w' := by
  obtain ⟨xt, xn⟩ := x
  dsimp only at *
  obtain ⟨hx0, hx1⟩ := hx
  have b0 : w.cell? ⟨B, 0, none⟩ = some (.slice (some ⟨L, 0, none⟩) n n) := h.1.cell 0
  have hB := h.1.lt
  have hL := h.2.1.lt
  cases xt
  · have hx2 := hx1 rfl
    have hx3 : xn < (n : Int) := by omega
    obtain ⟨v, hv⟩ := get_some (show xn.toNat < l.length by have := h.2.2; omega)
    have c0 : w.cell? ⟨L, xn.toNat, none⟩ = some (.int .i64 v) := (h.2.1.cell _).trans (icells_get hv)
    have HE := Lib.hid (show l.getD xn.toNat 0 = v by rw [List.getD_eq_getElem?_getD, hv]; rfl)
    clear hv h hx1
    go_enter Tryd.func51, Tryd.ntmps51
    go_wp2
    go_ret
    exact ⟨ret_bool (by rw [HE.out]; rfl), (Below.refl _ _).alloc (Nat.le_refl _) _⟩
  · clear h hx1
    go_enter Tryd.func51, Tryd.ntmps51
    go_wp2
    go_ret
    exact ⟨rfl, (Below.refl _ _).alloc (Nat.le_refl _) _⟩

set_option maxRecDepth 100000 in
theorem use_any (B L n : Nat) (l : List Int) (q : Rule) (A : Option Addr) (c : Nat) (S : Nat → Prop) (w : World) (h : LBox w B L n l) (hn : n ≤ 1000000) (hq : ∀ x ∈ q.right, 0 ≤ x.n ∧ (x.term = false → x.n.toNat < n)) (hlc : q.right.length ≤ c) (hc : c ≤ 9223372036854775807) (hA : Els w S q.right A) :
    Calls Tryd.prog 49 #[.agg #[.int .i64 q.left, .slice A q.right.length c], .pointer (some ⟨B, 0, none⟩)] w fun e w' => e = .returned (.bool (useB l q)) ∧ Below w.heap.size w w' := by
  obtain ⟨ql, qr⟩ := q
  dsimp only at *
  have hba : Below w.heap.size w (w.alloc (.cells #[.int .i64 ql, .slice A qr.length c] 57)) := (Below.refl _ _).alloc (Nat.le_refl _) _
  have HBa := Lib.hid hba
  have HA := Lib.hid (hA.below hba)
  have HL := Lib.hid (h.below hba)
  have HQ := Lib.hid hq
  have hm : qr.length ≤ 9223372036854775807 := by omega
  clear hba hA h hq
  go_enter Tryd.func49, Tryd.ntmps49
  go_wp2_with fail
  refine (contSym_any A c qr S _ _ _ (fun x => !x.term && decide (l.getD x.n.toNat 0 < 0)) hm HA.out (isGo_of Tryd.func51 (by kernel_rfl) (by kernel_rfl)) (fun x W hx hW => use1_any B L n l x W (HL.out.below hW) hn (HQ.out x hx))).mono ?_
  rintro e w1 ⟨rfl, hb1⟩
  have HB := Lib.hid (bthen HBa.out hb1 (by simp))
  have HU := Lib.hid (show useB l ⟨ql, qr⟩ = !(qr.any fun x => !x.term && decide (l.getD x.n.toNat 0 < 0)) from rfl)
  generalize (qr.any fun x => !x.term && decide (l.getD x.n.toNat 0 < 0)) = b at *
  clear hb1
  go_wp2
  go_ret
  exact ⟨ret_bool HU.out.symm, HB.out⟩
end Go.Proofs.YtnlpeiffbnlncaaDoor
