/- Contracts: the climber's take, of prec. -/
import Derived.Test.YtpcjfgikicpioaaQMake
import Derived.Test.YtpcjfgikicpioaaQp1
import Derived.Deep.QuietTactic
import Derived.BigQuiet
import Derived.Deep.Cut
import Derived.WalkLawsBesides
namespace Go.Proofs.Ytpcjfgikicpioaa
open Go.RowKit
set_option linter.unusedVariables false

def rejectP : Ending := .panicked [{ v := .iface 75 (.agg #[]), recovered := false }]
/-- A climber in memory: its table, the word, where it stands, the map. -/
def clCells (tm at0 op cl : Int) (lv : Value) (B : Option Addr) (n d : Nat) (p : Nat) (mv : Value) : Array Value := #[.int .i64 tm, .int .i64 at0, .int .i64 op, .int .i64 cl, lv, .slice B n d, .int .i64 p, mv]

theorem below_drewN {B : Nat} {w w' : World} (h : Below B w w') (n : Nat) : Below B w (w'.drewN n) := ⟨h.os, h.tape, h.output, h.size, h.block⟩
theorem kept_drewN {X : Nat → Prop} {w w' : World} (h : Kept X w w') (n : Nat) : Kept X w (w'.drewN n) := ⟨h.os, h.tape, h.output, h.size, h.block⟩
theorem leafC_any (a : Int) (w : World) : Calls Try.prog 76 #[.int .i64 a] w fun e w' => e = .returned (.agg #[.int .i64 (-1), .int .i64 a, .slice none 0 0]) ∧ Below w.heap.size w w' := by
  go_enter Try.func76, Try.ntmps76
  go_wp2
  exact bodyPost_ret (v := .agg #[.int .i64 (-1), .int .i64 a, .slice none 0 0]) (by simp [results, Try.results76, go_sem]) rfl ⟨rfl, (Below.refl _ _).alloc (Nat.le_refl _) _⟩

set_option maxRecDepth 100000 in
set_option maxHeartbeats 1000000 in
theorem take_end (K : Nat) (tm at0 op cl term : Int) (lv mv : Value) (B : Option Addr) (n d : Nat) (w : World) (hn : n ≤ 1000000) (hK : Blk' w K 68 (clCells tm at0 op cl lv B n d n mv)) :
    Calls Try.prog 51 #[.pointer (some ⟨K, 0, none⟩), .int .i64 term] w fun e w' => e = rejectP ∧ Below w.heap.size w w' := by
  have k5 : w.cell? ⟨K, 5, none⟩ = some (.slice B n d) := hK.cell 5
  have k6 : w.cell? ⟨K, 6, none⟩ = some (.int .i64 n) := hK.cell 6
  have zK := hK.lt
  have hb := Lib.hid (fun o => (Below.refl w.heap.size w).alloc (Nat.le_refl _) o)
  have hself : (((n : Nat) : Int) == ((n : Nat) : Int)) = true := by simp
  clear hK
  go_enter Try.func51, Try.ntmps51
  go_wp2_with fail
  go_quiet (fail)
  go_wp2_with fail
  exact ⟨rfl, rfl, below_drewN (hb.out _) _⟩

set_option maxRecDepth 100000 in
set_option maxHeartbeats 1000000 in
/-- The terminal is there: it is taken. -/
theorem take_hit (K : Nat) (tm at0 op cl term : Int) (lv mv : Value) (l : List Int) (B : Option Addr) (d p : Nat) (S : Nat → Prop) (w : World) (hn : l.length ≤ 1000000) (hK : Blk' w K 68 (clCells tm at0 op cl lv B l.length d p mv)) (hl : l[p]? = some term) (hB : Els w S l B) :
    Calls Try.prog 51 #[.pointer (some ⟨K, 0, none⟩), .int .i64 term] w fun e w' => e = .returned (.agg #[.int .i64 (-1), .int .i64 term, .slice none 0 0]) ∧ Blk' w' K 68 (clCells tm at0 op cl lv B l.length d (p + 1) mv) ∧ Kept (fun b => b = K) w w' := by
  obtain ⟨bx, ox, rfl, hSx, hbx, hxi, hxc⟩ := hB.int hl
  have hp : p < l.length := (List.getElem?_eq_some_iff.1 hl).1
  have k5 : w.cell? ⟨K, 5, none⟩ = some (.slice (some ⟨bx, ox, none⟩) l.length d) := hK.cell 5
  have k6 : w.cell? ⟨K, 6, none⟩ = some (.int .i64 p) := hK.cell 6
  have f6 := hK.frozen 6
  have zK := hK.lt
  have HK := Lib.hid hK
  have hne : ¬ (p : Int) = (l.length : Int) := by omega
  have hd1 : decide ((p : Int) = (l.length : Int)) = false := by simp; omega
  have hp0 : (0 : Int) ≤ (p : Int) := by omega
  have hp9 : (p : Int) < (l.length : Int) := by omega
  clear hK hB hl hSx
  go_enter Try.func51, Try.ntmps51
  go_wp2_with fail
  go_quiet (fail)
  go_wp2_with fail
  obtain ⟨w2, hw2⟩ : ∃ w2 : World, w2 = (((w.alloc (.cells #[.int .i64 0, .int .i64 0, .slice none 0 0] 28)).drewN nq).setCell ⟨K, 6, none⟩ (.int .i64 ((p : Int) + 1))) := ⟨_, rfl⟩
  have HK2 : Hid (Blk' w2 K 68 (clCells tm at0 op cl lv (some ⟨bx, ox, none⟩) l.length d (p + 1) mv)) := Lib.hid (by
    have h : Blk' ((w.alloc (.cells #[.int .i64 0, .int .i64 0, .slice none 0 0] 28)).drewN nq) K 68 (clCells tm at0 op cl lv (some ⟨bx, ox, none⟩) l.length d p mv) := HK.out.alloc _
    rw [hw2]
    exact h.set_ 6 _)
  have HKp : Hid (Kept (fun b => b = K) w w2) := Lib.hid (by
    rw [hw2]
    exact (kept_drewN ((Kept.refl (fun b => b = K) w).alloc _) _).setCell (p := ⟨K, 6, none⟩) (.inl rfl) _)
  have HR : Hid (Blk' w2 w.heap.size 28 #[.int .i64 0, .int .i64 0, .slice none 0 0]) := Lib.hid (by
    have h : Blk' ((w.alloc (.cells #[.int .i64 0, .int .i64 0, .slice none 0 0] 28)).drewN nq) w.heap.size 28 #[.int .i64 0, .int .i64 0, .slice none 0 0] := Blk'.new w _ _
    rw [hw2]
    exact h.kept ((Kept.refl (fun b => b = K) _).setCell (p := ⟨K, 6, none⟩) (.inl rfl) _) (by omega))
  have HW := Lib.hid hw2
  rw [← hw2]
  clear hw2
  refine (leafC_any term _).mono ?_
  rintro e w3 ⟨rfl, hb3⟩
  have hR3 := HR.out.below hb3 HR.out.lt
  have HB3 := Lib.hid hb3
  have HR3 := Lib.hid hR3
  have s0 : w3.cell? ⟨w.heap.size, 0, none⟩ = some (.int .i64 0) := hR3.cell 0
  have s1 : w3.cell? ⟨w.heap.size, 1, none⟩ = some (.int .i64 0) := hR3.cell 1
  have s2 : w3.cell? ⟨w.heap.size, 2, none⟩ = some (.slice none 0 0) := hR3.cell 2
  have r0 := hR3.frozen 0
  have r1 := hR3.frozen 1
  have r2 := hR3.frozen 2
  have z3 := hR3.lt
  obtain ⟨wF, hwF⟩ : ∃ wF : World, wF = (((w3.setCell ⟨w.heap.size, 0, none⟩ (.int .i64 (-1))).setCell ⟨w.heap.size, 1, none⟩ (.int .i64 term)).setCell ⟨w.heap.size, 2, none⟩ (.slice none 0 0)) := ⟨_, rfl⟩
  have HF : Hid (Kept (fun b => b = w.heap.size) w3 wF) := Lib.hid (by rw [hwF]; exact (((Kept.refl (fun b => b = w.heap.size) w3).setCell (p := ⟨w.heap.size, 0, none⟩) (.inl rfl) _).setCell (p := ⟨w.heap.size, 1, none⟩) (.inl rfl) _).setCell (p := ⟨w.heap.size, 2, none⟩) (.inl rfl) _)
  have hRF : Blk' wF w.heap.size 28 #[.int .i64 (-1), .int .i64 term, .slice none 0 0] := by rw [hwF]; exact ((hR3.set_ 0 _).set_ 1 _).set_ 2 _
  have u0 : wF.cell? ⟨w.heap.size, 0, none⟩ = some (.int .i64 (-1)) := hRF.cell 0
  have u1 : wF.cell? ⟨w.heap.size, 1, none⟩ = some (.int .i64 term) := hRF.cell 1
  have u2 : wF.cell? ⟨w.heap.size, 2, none⟩ = some (.slice none 0 0) := hRF.cell 2
  have HWF := Lib.hid hwF
  clear hR3 hb3 hRF hwF
  go_wp2_with fail
  rw [← HWF.out]
  refine bodyPost_ret (v := .agg #[.int .i64 (-1), .int .i64 term, .slice none 0 0]) (by simp [results, Try.results51, go_sem, u0, u1, u2]) rfl ⟨rfl, (HK2.out.below HB3.out HK2.out.lt).kept HF.out (by omega), ?_⟩
  exact (HKp.out.below HB3.out).later HF.out (fun b hb => .inr (by have h1 : b = w.heap.size := hb; omega))
end Go.Proofs.Ytpcjfgikicpioaa
