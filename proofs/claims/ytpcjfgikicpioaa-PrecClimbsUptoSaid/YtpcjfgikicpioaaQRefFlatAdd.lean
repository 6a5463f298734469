/- The closure parlref2.FlatOf$1: it appends a rule. -/
import Derived.Test.YtpcjfgikicpioaaQPrecAdd
import Derived.Test.YtpcjfgikicpioaaQSymMk
namespace Go.Proofs.Ytpcjfgikicpioaa
open Go.RowKit
set_option linter.unusedVariables false

/-- A grammar's block G with a row of rules of the call's own. X: blocks that the row does not lie in. -/
def G1 (X : Nat → Prop) (B G : Nat) (t n s : Int) (rs : List Rule) (w : World) : Prop :=
  ∃ v, Blk' w G 37 #[.int .i64 t, .int .i64 n, .int .i64 s, v] ∧ Own w (fun _ => False) B 71 v rs ∧ ∀ b, X b → b < w.heap.size ∧ b ≠ G ∧ v.ownBlock ≠ some b
theorem G1.below {X : Nat → Prop} {B G : Nat} {t n s : Int} {rs : List Rule} {w w' : World} (h : G1 X B G t n s rs w) (hb : Below w.heap.size w w') : G1 X B G t n s rs w' := by
  obtain ⟨v, h1, h2, h3⟩ := h
  exact ⟨v, h1.below hb h1.lt, h2.below hb (Nat.le_refl _), fun b hb' => ⟨Nat.lt_of_lt_of_le (h3 b hb').1 hb.size, (h3 b hb').2⟩⟩
theorem G1.guardN {X : Nat → Prop} {B G : Nat} {t n s : Int} {rs : List Rule} {w w' : World} (h : G1 X B G t n s rs w) (hb : Below w.heap.size w w') : G1 (fun b => w.heap.size ≤ b ∧ b < w'.heap.size) B G t n s rs w' := by
  obtain ⟨v, h1, h2, h3⟩ := h.below hb
  obtain ⟨u, q1, q2, q3⟩ := h
  have e1 : u = v := by
    have e := q1.below hb q1.lt
    unfold Blk' at e h1
    rw [e] at h1
    simpa using h1
  subst e1
  exact ⟨u, h1, h2, fun b hb => ⟨hb.2, fun e => by have := q1.lt; omega, fun e => by have := (q2.block _ e).2; omega⟩⟩
theorem G1.sub {X X' : Nat → Prop} {B G : Nat} {t n s : Int} {rs : List Rule} {w : World} (h : G1 X B G t n s rs w) (hx : ∀ b, X' b → X b) : G1 X' B G t n s rs w := by
  obtain ⟨v, h1, h2, h3⟩ := h
  exact ⟨v, h1, h2, fun b hb => h3 b (hx b hb)⟩

set_option maxRecDepth 100000 in
set_option maxHeartbeats 1000000 in
theorem refFlatAdd_any (right : List Sym) (A : Option Addr) (c B0 B G : Nat) (X : Nat → Prop) (t n s : Int) (rs : List Rule) (w0 w : World)
    (hG : B0 ≤ G ∧ G < B ∧ B ≤ w0.heap.size) (hst : G1 X B G t n s rs w0) (hb : Below w0.heap.size w0 w) (hr : Els w (fun b => w0.heap.size ≤ b ∧ b < w.heap.size) right A)
    (hc : right.length ≤ c ∧ c ≤ 9223372036854775807) (hl : rs.length ≤ 1000000) :
    Calls Try.prog 28 #[.slice A right.length c, .pointer (some ⟨G, 0, none⟩)] w
      fun e w' => e = .returned (.tuple #[]) ∧ G1 X B G t n s (rs ++ [⟨0, right⟩]) w' ∧ Below B0 w w' ∧ ∀ b, X b → w'.heap[b]? = w.heap[b]? := by
  obtain ⟨v, hb1, ho, hX⟩ := hst.below hb
  have hn1 : ∀ k, v.ownBlock = some k → k < w0.heap.size := by
    obtain ⟨u1, q1, q2, _⟩ := hst
    have e1 := q1.below hb q1.lt
    unfold Blk' at e1 hb1
    rw [hb1] at e1
    simp at e1
    rw [e1]
    exact fun k hk => (q2.block k hk).2
  have hsz := hb.size
  have hGw : G < w.heap.size := hb1.lt
  have hB0 : B0 ≤ w.heap.size := by omega
  have hBw : B ≤ w.heap.size := by omega
  have Hrd : Hid (Dat.rd (w.alloc (.cells #[.int .i64 0, .slice A right.length c] 71)) (OwnT (fun _ => False) B v (w.alloc (.cells #[.int .i64 0, .slice A right.length c] 71))) (⟨0, right⟩ : Rule) [.int .i64 0, .slice A right.length c]) :=
    Lib.hid ⟨_, rfl, (show I64 0 from ⟨by decide, by decide⟩), Vl.of_slice rfl hc.1 hc.2 ((hr.below ((Below.refl _ _).alloc (Nat.le_refl _) _)).keep (fun _ _ _ => rfl) (fun b hb' => ⟨.inr (by omega), fun e => by have := hn1 b e; omega, by have := hb'.2; simp; omega⟩))⟩
  have g3 : w.cell? ⟨G, 3, none⟩ = some v := hb1.cell 3
  have hcap1 : (rs.length + 1) * 32 ≤ 140737488355328 := by omega
  have hcap2 : rs.length + 1 ≤ 9223372036854775807 := by omega
  have HO := Lib.hid (ho.alloc (.cells #[.int .i64 0, .slice A right.length c] 71))
  have HN : Hid (some G ≠ v.ownBlock) := Lib.hid (fun e => by have := (ho.block G e.symm).1; omega)
  have HG := Lib.hid (hb1.alloc (.cells #[.int .i64 0, .slice A right.length c] 71))
  have HX := Lib.hid (And.intro hX (And.intro hG hn1))
  have HBa := Lib.hid ((Below.refl B0 w).alloc hB0 (.cells #[.int .i64 0, .slice A right.length c] 71))
  have HBw := Lib.hid ((Below.refl w.heap.size w).alloc (Nat.le_refl _) (.cells #[.int .i64 0, .slice A right.length c] 71))
  obtain ⟨A1, c1, e1, _⟩ := ho.form
  subst e1
  clear hX hG hn1 ho hb1 hst hb hr hl
  go_enter Try.func28, Try.ntmps28
  go_wp2_with (at_builtin; refine wpList_own1 _ rfl _ _ elemRule rfl rfl HO.out ⟨0, right⟩ [.int .i64 0, .slice A right.length c] rfl (At.new _ _ _) Hrd.out hcap1 hcap2 (by simp; omega) ?_; intro v' w3 hown3 hg3 hat3; obtain ⟨A3, k3, hv3, _⟩ := hown3.form; rw [snoc_len] at hv3; subst hv3; have hb3 := HG.out.grown hg3 HN.out; have c3 := hb3.cell 3; have f3 := hb3.frozen 3; have H3 := Lib.hid (And.intro hown3 (And.intro hg3 (And.intro hat3 hb3))); clear hown3 hg3 hat3 hb3; simp at c3)
  go_end0
  refine ⟨rfl, ⟨_, H3.out.2.2.2.set_ 3 _, H3.out.1.setCell (fun e => by have := (H3.out.1.block _ e).1; have := HX.out.2.1; dsimp only at *; omega) (by have := HX.out.2.1; simp; omega) _, fun b hb => ⟨?_, (HX.out.1 b hb).2.1, fun e => ?_⟩⟩, (HBa.out.grown H3.out.2.1 (by simp; omega) (fun k hk => by have := (HO.out.block k hk).1; have := HX.out.2.1; omega)).setCell HX.out.2.1.1 _, fun b hb => ?_⟩
  · have := (HX.out.1 b hb).1
    have := H3.out.2.1.size
    simp [World.setCell] at *; omega
  · rcases H3.out.2.2.1 with q | q
    · exact (HX.out.1 b hb).2.2 (q ▸ e)
    · rw [e] at q; injection q with q; have := (HX.out.1 b hb).1; simp at q; omega
  · refine (Below.heap_setCell _ _ _ _ (HX.out.1 b hb).2.1).trans ((H3.out.2.1.block b ?_ (fun e => (HX.out.1 b hb).2.2 e.symm)).trans (HBw.out.block b (HX.out.1 b hb).1))
    exact Nat.lt_of_lt_of_le (HX.out.1 b hb).1 HBw.out.size
end Go.Proofs.Ytpcjfgikicpioaa
