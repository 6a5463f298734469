/- Contract: parlmake.Tree. -/
import Derived.Test.YtjdojogjogenkaaDoorQMakeTree
namespace Go.Proofs.YtjdojogjogenkaaDoor
open Go.RowKit
set_option linter.unusedVariables false

def RetTop (g : Gram) (w : World) (e : Ending) (w' : World) : Prop :=
  ∃ (v : Value) (ok : Bool), e = .returned (.tuple #[v, .bool ok]) ∧ Below w.heap.size w w' ∧ (∃ (a b : Int) (A : Option Addr) (n c : Nat), v = .agg #[.int .i64 a, .int .i64 b, .slice A n c]) ∧
    (ok = true → ∃ t : Tree, vt g t ⟨false, g.start⟩ ∧ Vl w' (fun b => w.heap.size ≤ b ∧ b < w'.heap.size) t v ∧ (yieldT t).length ≤ 60 ∧ nodesT t ≤ 60)

/-- The same, and without a tree the empty value comes back. -/
def RetTopZ (g : Gram) (w : World) (e : Ending) (w' : World) : Prop :=
  ∃ (v : Value) (ok : Bool), e = .returned (.tuple #[v, .bool ok]) ∧ Below w.heap.size w w' ∧ (∃ (a b : Int) (A : Option Addr) (n c : Nat), v = .agg #[.int .i64 a, .int .i64 b, .slice A n c]) ∧
    (ok = true → ∃ t : Tree, vt g t ⟨false, g.start⟩ ∧ Vl w' (fun b => w.heap.size ≤ b ∧ b < w'.heap.size) t v ∧ (yieldT t).length ≤ 60 ∧ nodesT t ≤ 60) ∧ (ok = false → v = .agg #[.int .i64 0, .int .i64 0, .slice none 0 0])

set_option maxRecDepth 100000 in
set_option maxHeartbeats 1000000 in
theorem makeTreeZ_any (g : Gram) (A : Option Addr) (c : Nat) (xs : List Int) (B : Option Addr) (d : Nat) (Sr S : Nat → Prop) (w : World) (h64 : I64 g.terms ∧ I64 g.nons ∧ I64 g.start) (hlc : g.rules.length ≤ c) (hc : c ≤ 9223372036854775807) (hrl : g.rules.length ≤ 1000) (hrr : ∀ q ∈ g.rules, q.right.length ≤ 1000)
    (hA : Els w Sr g.rules A) (hSr : ∀ b, Sr b → b < w.heap.size) (hld : xs.length ≤ d) (hd : d ≤ 9223372036854775807) (hB : Els w S xs B) (hS : ∀ b, S b → b < w.heap.size) :
    Calls Tryd.prog 22 #[.agg #[.int .i64 g.terms, .int .i64 g.nons, .int .i64 g.start, .slice A g.rules.length c], .slice B xs.length d] w (RetTopZ g w) := by
  obtain ⟨gt, gn, gs, rs⟩ := g
  dsimp only at *
  obtain ⟨w1, hw1⟩ : ∃ w1 : World, w1 = (((w.alloc (.cells #[.int .i64 gt, .int .i64 gn, .int .i64 gs, .slice A rs.length c] 24)).alloc (.cells #[.int .i64 0, .int .i64 0, .slice none 0 0] 27)).alloc (.cells #[.int .i64 60] 3)).alloc (.cells #[.slice B xs.length d] 92) := ⟨_, rfl⟩
  have hb1 : Below w.heap.size w w1 := by rw [hw1]; exact ((((Below.refl _ _).alloc (Nat.le_refl _) _).alloc (by simp) _).alloc (by simp; omega) _).alloc (by simp; omega) _
  have hZ1 : Blk' w1 (w.heap.size + 1) 27 #[.int .i64 0, .int .i64 0, .slice none 0 0] := by rw [hw1]; exact ((Blk'.new' _ _ _ (by simp)).alloc _).alloc _
  have hL1 : Blk' w1 (w.heap.size + 2) 3 #[.int .i64 60] := by rw [hw1]; exact (Blk'.new' _ _ _ (by simp)).alloc _
  have hs1 : StreamAt S w1 (w.heap.size + 3) := by
    have h : Blk' w1 (w.heap.size + 3) 92 #[.slice B xs.length d] := by rw [hw1]; exact Blk'.new' _ _ _ (by simp)
    exact ⟨xs, B, d, h.cell 0, h.frozen 0, hld, hd, hB.below hb1⟩
  have HA1 := Lib.hid (hA.below hb1)
  have HBd : Hid (∀ b, Sr b ∨ S b → b < w1.heap.size) := Lib.hid (fun b hb => by have := hL1.lt; rcases hb with hb | hb; (have := hSr b hb; omega); (have := hS b hb; omega))
  have H1 := Lib.hid (And.intro hb1 (And.intro hZ1 (And.intro hL1 hs1)))
  have HW := Lib.hid hw1
  have HSr := Lib.hid hSr
  have HS := Lib.hid hS
  have HRR := Lib.hid hrr
  have H64 := Lib.hid h64
  have HRL := Lib.hid hrl
  clear hw1 hb1 hZ1 hL1 hs1 hSr hS hrr h64 hrl hA hB
  go_enter Tryd.func22, Tryd.ntmps22
  go_wp2_with fail
  rw [← HW.out]
  refine (tree_any ⟨gt, gn, gs, rs⟩ A c Sr S (w.heap.size + 3) (w.heap.size + 2) H64.out hlc hc HRL.out HRR.out (by omega) (fun b hb => by have := HSr.out b hb; omega) (fun b hb => by have := HS.out b hb; omega) 13 12 ⟨false, gs⟩ 60 w1 (by decide) (by decide) H64.out.2.2 (by decide) (by decide) HA1.out H1.out.2.2.2 H1.out.2.2.1 HBd.out).mono ?_
  rintro e w2 ⟨v, ok, l', rfl, hk, hs, hL, ⟨a5, b5, A5, n5, c5, rfl⟩, hok⟩
  have hb2 : Below w.heap.size w w2 := H1.out.1.trans (hk.to_below (fun b hb => by rcases hb with hb | hb <;> omega) H1.out.1.size)
  have hZ2 := H1.out.2.1.kept hk (fun h => by rcases h with h | h <;> omega)
  have z0 : w2.cell? ⟨w.heap.size + 1, 0, none⟩ = some (.int .i64 0) := hZ2.cell 0
  have z1 : w2.cell? ⟨w.heap.size + 1, 1, none⟩ = some (.int .i64 0) := hZ2.cell 1
  have z2 : w2.cell? ⟨w.heap.size + 1, 2, none⟩ = some (.slice none 0 0) := hZ2.cell 2
  have f0 := hZ2.frozen 0
  have f1 := hZ2.frozen 1
  have f2 := hZ2.frozen 2
  have hz := (((hZ2.set_ 0 (.int .i64 a5)).set_ 1 (.int .i64 b5)).set_ 2 (.slice A5 n5 c5))
  have r0 := hz.cell 0
  have r1 := hz.cell 1
  have r2 := hz.cell 2
  simp at r0 r1 r2
  have HBz := Lib.hid (((hb2.setCell (p := ⟨w.heap.size + 1, 0, none⟩) (by simp) (.int .i64 a5)).setCell (p := ⟨w.heap.size + 1, 1, none⟩) (by simp) (.int .i64 b5)).setCell (p := ⟨w.heap.size + 1, 2, none⟩) (by simp) (.slice A5 n5 c5))
  have HOK := Lib.hid (And.intro hok H1.out.1.size)
  have hw1s : w.heap.size + 3 < w1.heap.size := by obtain ⟨ys, Y, cy, q1, _⟩ := H1.out.2.2.2; exact World.block_lt_of_cell? w1 _ q1
  clear hk hs hL hok hb2 hZ2 hz
  go_wp2
  refine bodyPost_ret (v := .tuple #[.agg #[.int .i64 a5, .int .i64 b5, .slice A5 n5 c5], .bool ok]) (by simp [results, Tryd.results22, go_sem, r0, r1, r2]) rfl ⟨_, _, rfl, HBz.out, ⟨_, _, _, _, _, rfl⟩, fun h => ?_, fun h => HOK.out.1.2 h⟩
  obtain ⟨hl0, t, ht, hv, hy⟩ := HOK.out.1.1 h
  have hkx : Kept (fun b => b = w.heap.size + 1) w2 (((w2.setCell ⟨w.heap.size + 1, 0, none⟩ (.int .i64 a5)).setCell ⟨w.heap.size + 1, 1, none⟩ (.int .i64 b5)).setCell ⟨w.heap.size + 1, 2, none⟩ (.slice A5 n5 c5)) :=
    (((Kept.refl (fun b => b = w.heap.size + 1) w2).setCell (p := ⟨w.heap.size + 1, 0, none⟩) (.inl rfl) _).setCell (p := ⟨w.heap.size + 1, 1, none⟩) (.inl rfl) _).setCell (p := ⟨w.heap.size + 1, 2, none⟩) (.inl rfl) _
  exact ⟨t, ht, (hv.kept hkx (fun b hb h => by omega)).mono (fun b hb => ⟨by omega, by have := hb.2; simp [World.setCell]; omega⟩), by have := yield_nodes t; omega, by omega⟩
theorem makeTree_any (g : Gram) (A : Option Addr) (c : Nat) (xs : List Int) (B : Option Addr) (d : Nat) (Sr S : Nat → Prop) (w : World) (h64 : I64 g.terms ∧ I64 g.nons ∧ I64 g.start) (hlc : g.rules.length ≤ c) (hc : c ≤ 9223372036854775807) (hrl : g.rules.length ≤ 1000) (hrr : ∀ q ∈ g.rules, q.right.length ≤ 1000)
    (hA : Els w Sr g.rules A) (hSr : ∀ b, Sr b → b < w.heap.size) (hld : xs.length ≤ d) (hd : d ≤ 9223372036854775807) (hB : Els w S xs B) (hS : ∀ b, S b → b < w.heap.size) :
    Calls Tryd.prog 22 #[.agg #[.int .i64 g.terms, .int .i64 g.nons, .int .i64 g.start, .slice A g.rules.length c], .slice B xs.length d] w (RetTop g w) :=
  (makeTreeZ_any g A c xs B d Sr S w h64 hlc hc hrl hrr hA hSr hld hd hB hS).mono fun e w' ⟨v, ok, h1, h2, h3, h4, _⟩ => ⟨v, ok, h1, h2, h3, h4⟩
end Go.Proofs.YtjdojogjogenkaaDoor
