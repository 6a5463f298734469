/- Contract: closed.finish; grammars, rules, symbols laid side by side in a block just made. -/
import Derived.Test.YtnlpeiffbnlncaaDoorQClosedJoin
namespace Go.Proofs.YtnlpeiffbnlncaaDoor
open Go.RowKit
set_option linter.unusedVariables false

theorem els_gram1 {w : World} {S : Nat → Prop} {g : Gram} {A : Option Addr} {c : Nat} (t : TypeId) (hA : Els w S g.rules A) (h1 : g.rules.length ≤ c) (h2 : c ≤ 9223372036854775807) (hi : I64 g.terms ∧ I64 g.nons ∧ I64 g.start) :
    Els (w.alloc (.cells #[.int .i64 g.terms, .int .i64 g.nons, .int .i64 g.start, .slice A g.rules.length c] t)) (fun b => S b ∨ b = w.heap.size) [g] (some ⟨w.heap.size, 0, none⟩) := fun _ => by
  have hb : Below w.heap.size w (w.alloc (.cells #[.int .i64 g.terms, .int .i64 g.nons, .int .i64 g.start, .slice A g.rules.length c] t)) := (Below.refl _ _).alloc (Nat.le_refl _) _
  refine ⟨w.heap.size, 0, rfl, .inr rfl, fun i z hz => ?_⟩
  match i, hz with
  | 0, hz =>
    simp at hz; subst hz
    refine ⟨[.int .i64 g.terms, .int .i64 g.nons, .int .i64 g.start, .slice A g.rules.length c], ⟨_, rfl, hi.1, hi.2.1, hi.2.2, Vl.of_slice rfl h1 h2 ((hA.below hb).keep (fun _ _ _ => rfl) (fun b h => .inl h))⟩, fun j u hu => ?_⟩
    rw [show 0 + 0 * Dat.size Gram + j = j by omega]
    rw [(Blk'.new w t _).cell j]
    simpa using hu
theorem els_rule2 {w : World} {S : Nat → Prop} {q1 q2 : Rule} {A1 A2 : Option Addr} {c1 c2 : Nat} (t : TypeId) (h1 : Els w S q1.right A1) (k1 : q1.right.length ≤ c1) (m1 : c1 ≤ 9223372036854775807) (h2 : Els w S q2.right A2) (k2 : q2.right.length ≤ c2) (m2 : c2 ≤ 9223372036854775807) (i1 : I64 q1.left) (i2 : I64 q2.left) :
    Els (w.alloc (.cells #[.int .i64 q1.left, .slice A1 q1.right.length c1, .int .i64 q2.left, .slice A2 q2.right.length c2] t)) (fun b => S b ∨ b = w.heap.size) [q1, q2] (some ⟨w.heap.size, 0, none⟩) := fun _ => by
  have hb : Below w.heap.size w (w.alloc (.cells #[.int .i64 q1.left, .slice A1 q1.right.length c1, .int .i64 q2.left, .slice A2 q2.right.length c2] t)) := (Below.refl _ _).alloc (Nat.le_refl _) _
  refine ⟨w.heap.size, 0, rfl, .inr rfl, fun i z hz => ?_⟩
  match i, hz with
  | 0, hz =>
    simp at hz; subst hz
    refine ⟨[.int .i64 q1.left, .slice A1 q1.right.length c1], ⟨_, rfl, i1, Vl.of_slice rfl k1 m1 ((h1.below hb).keep (fun _ _ _ => rfl) (fun b h => .inl h))⟩, fun j u hu => ?_⟩
    rw [show 0 + 0 * Dat.size Rule + j = j by omega, (Blk'.new w t _).cell j]
    match j, hu with
    | 0, hu => simp at hu; subst hu; rfl
    | 1, hu => simp at hu; subst hu; rfl
  | 1, hz =>
    simp at hz; subst hz
    refine ⟨[.int .i64 q2.left, .slice A2 q2.right.length c2], ⟨_, rfl, i2, Vl.of_slice rfl k2 m2 ((h2.below hb).keep (fun _ _ _ => rfl) (fun b h => .inl h))⟩, fun j u hu => ?_⟩
    rw [show 0 + 1 * Dat.size Rule + j = 2 + j by show 0 + 1 * 2 + j = 2 + j; omega, (Blk'.new w t _).cell (2 + j)]
    match j, hu with
    | 0, hu => simp at hu; subst hu; rfl
    | 1, hu => simp at hu; subst hu; rfl
theorem els_sym2 {w : World} {s1 s2 : Sym} (t : TypeId) (h1 : I64 s1.n) (h2 : I64 s2.n) :
    Els (w.alloc (.cells #[.bool s1.term, .int .i64 s1.n, .bool s2.term, .int .i64 s2.n] t)) (fun b => b = w.heap.size) [s1, s2] (some ⟨w.heap.size, 0, none⟩) := fun _ => by
  refine ⟨w.heap.size, 0, rfl, rfl, fun i z hz => ?_⟩
  match i, hz with
  | 0, hz =>
    simp at hz; subst hz
    refine ⟨[.bool s1.term, .int .i64 s1.n], ⟨rfl, h1⟩, fun j u hu => ?_⟩
    rw [show 0 + 0 * Dat.size Sym + j = j by omega, (Blk'.new w t _).cell j]
    match j, hu with
    | 0, hu => simp at hu; subst hu; rfl
    | 1, hu => simp at hu; subst hu; rfl
  | 1, hz =>
    simp at hz; subst hz
    refine ⟨[.bool s2.term, .int .i64 s2.n], ⟨rfl, h2⟩, fun j u hu => ?_⟩
    rw [show 0 + 1 * Dat.size Sym + j = 2 + j by show 0 + 1 * 2 + j = 2 + j; omega, (Blk'.new w t _).cell (2 + j)]
    match j, hu with
    | 0, hu => simp at hu; subst hu; rfl
    | 1, hu => simp at hu; subst hu; rfl

theorem els_gram2 {w : World} {S : Nat → Prop} {g h : Gram} {A B : Option Addr} {c d : Nat} (t : TypeId) (hA : Els w S g.rules A) (h1 : g.rules.length ≤ c) (h2 : c ≤ 9223372036854775807) (hi : I64 g.terms ∧ I64 g.nons ∧ I64 g.start)
    (hB : Els w S h.rules B) (k1 : h.rules.length ≤ d) (k2 : d ≤ 9223372036854775807) (hj : I64 h.terms ∧ I64 h.nons ∧ I64 h.start) :
    Els (w.alloc (.cells #[.int .i64 g.terms, .int .i64 g.nons, .int .i64 g.start, .slice A g.rules.length c, .int .i64 h.terms, .int .i64 h.nons, .int .i64 h.start, .slice B h.rules.length d] t)) (fun b => S b ∨ b = w.heap.size) [g, h] (some ⟨w.heap.size, 0, none⟩) := fun _ => by
  have hb : Below w.heap.size w (w.alloc (.cells #[.int .i64 g.terms, .int .i64 g.nons, .int .i64 g.start, .slice A g.rules.length c, .int .i64 h.terms, .int .i64 h.nons, .int .i64 h.start, .slice B h.rules.length d] t)) := (Below.refl _ _).alloc (Nat.le_refl _) _
  refine ⟨w.heap.size, 0, rfl, .inr rfl, fun i z hz => ?_⟩
  match i, hz with
  | 0, hz =>
    simp at hz; subst hz
    refine ⟨[.int .i64 g.terms, .int .i64 g.nons, .int .i64 g.start, .slice A g.rules.length c], ⟨_, rfl, hi.1, hi.2.1, hi.2.2, Vl.of_slice rfl h1 h2 ((hA.below hb).keep (fun _ _ _ => rfl) (fun b h => .inl h))⟩, fun j u hu => ?_⟩
    rw [show 0 + 0 * Dat.size Gram + j = j by omega, (Blk'.new w t _).cell j]
    match j, hu with
    | 0, hu => simp at hu; subst hu; rfl
    | 1, hu => simp at hu; subst hu; rfl
    | 2, hu => simp at hu; subst hu; rfl
    | 3, hu => simp at hu; subst hu; rfl
  | 1, hz =>
    simp at hz; subst hz
    refine ⟨[.int .i64 h.terms, .int .i64 h.nons, .int .i64 h.start, .slice B h.rules.length d], ⟨_, rfl, hj.1, hj.2.1, hj.2.2, Vl.of_slice rfl k1 k2 ((hB.below hb).keep (fun _ _ _ => rfl) (fun b h => .inl h))⟩, fun j u hu => ?_⟩
    rw [show 0 + 1 * Dat.size Gram + j = 4 + j by show 0 + 1 * 4 + j = 4 + j; omega, (Blk'.new w t _).cell (4 + j)]
    match j, hu with
    | 0, hu => simp at hu; subst hu; rfl
    | 1, hu => simp at hu; subst hu; rfl
    | 2, hu => simp at hu; subst hu; rfl
    | 3, hu => simp at hu; subst hu; rfl


set_option maxRecDepth 100000 in
set_option maxHeartbeats 2000000 in
theorem finish_any (g : Gram) (A : Option Addr) (c : Nat) (S : Nat → Prop) (w : World) (hck : checkI g = 0) (hlc : g.rules.length ≤ c) (hc : c ≤ 9223372036854775807) (hA : Els w S g.rules A) (hS : ∀ b, S b → b < w.heap.size) :
    Calls Tryd.prog 70 #[.agg #[.int .i64 g.terms, .int .i64 g.nons, .int .i64 g.start, .slice A g.rules.length c]] w fun e w' => e = .returned (.tuple #[.agg #[.int .i64 g.terms, .int .i64 g.nons, .int .i64 g.start, .slice A g.rules.length c], .int .i64 0]) ∧ Below w.heap.size w w' := by
  obtain ⟨gt, gn, gs, rs⟩ := g
  dsimp only at *
  have HC := Lib.hid hck
  obtain ⟨w1, hw1⟩ : ∃ w1 : World, w1 = (w.alloc (.cells #[.int .i64 gt, .int .i64 gn, .int .i64 gs, .slice A rs.length c] 25)).alloc (.cells #[.int .i64 0, .int .i64 0, .int .i64 0, .slice none 0 0] 25) := ⟨_, rfl⟩
  have HW1 := Lib.hid hw1
  have hb1 : Below w.heap.size w w1 := by rw [hw1]; exact ((Below.refl _ _).alloc (Nat.le_refl _) _).alloc (by simp) _
  have HG1 : Hid (Blk' w1 w.heap.size 25 #[.int .i64 gt, .int .i64 gn, .int .i64 gs, .slice A rs.length c]) := Lib.hid (by rw [hw1]; exact (Blk'.new w _ _).alloc _)
  have HR1 : Hid (Blk' w1 (w.heap.size + 1) 25 #[.int .i64 0, .int .i64 0, .int .i64 0, .slice none 0 0]) := Lib.hid (by rw [hw1]; exact Blk'.new' _ _ _ (by simp))
  have HB1 := Lib.hid hb1
  have HA1 := Lib.hid (hA.belowB hb1 hS)
  have a0 : w1.cell? ⟨w.heap.size, 0, none⟩ = some (.int .i64 gt) := HG1.out.cell 0
  have a1 : w1.cell? ⟨w.heap.size, 1, none⟩ = some (.int .i64 gn) := HG1.out.cell 1
  have a2 : w1.cell? ⟨w.heap.size, 2, none⟩ = some (.int .i64 gs) := HG1.out.cell 2
  have a3 : w1.cell? ⟨w.heap.size, 3, none⟩ = some (.slice A rs.length c) := HG1.out.cell 3
  have zG : w.heap.size < w1.heap.size := HG1.out.lt
  clear hw1 hb1 hA hck
  go_enter Tryd.func70, Tryd.ntmps70
  go_upto_region 1 with (fail)
  rw [← HW1.out]
  go_wp2_with fail
  refine (check_any ⟨gt, gn, gs, rs⟩ A c S w1 hlc hc HA1.out).mono ?_
  rintro e w2 ⟨rfl, hb2⟩
  rw [HC.out]
  have HB2 := Lib.hid (bthen HB1.out hb2 HB1.out.size)
  have HG2 := Lib.hid (HG1.out.below hb2 HG1.out.lt)
  have HR2 := Lib.hid (HR1.out.below hb2 HR1.out.lt)
  have b0 : w2.cell? ⟨w.heap.size, 0, none⟩ = some (.int .i64 gt) := HG2.out.cell 0
  have b1 : w2.cell? ⟨w.heap.size, 1, none⟩ = some (.int .i64 gn) := HG2.out.cell 1
  have b2 : w2.cell? ⟨w.heap.size, 2, none⟩ = some (.int .i64 gs) := HG2.out.cell 2
  have b3 : w2.cell? ⟨w.heap.size, 3, none⟩ = some (.slice A rs.length c) := HG2.out.cell 3
  have zG2 : w.heap.size < w2.heap.size := HG2.out.lt
  have r0 := HR2.out.frozen 0
  have r1 := HR2.out.frozen 1
  have r2 := HR2.out.frozen 2
  have r3 := HR2.out.frozen 3
  have q0 : w2.cell? ⟨w.heap.size + 1, 0, none⟩ = some (.int .i64 0) := HR2.out.cell 0
  have q1 : w2.cell? ⟨w.heap.size + 1, 1, none⟩ = some (.int .i64 0) := HR2.out.cell 1
  have q2 : w2.cell? ⟨w.heap.size + 1, 2, none⟩ = some (.int .i64 0) := HR2.out.cell 2
  have q3 : w2.cell? ⟨w.heap.size + 1, 3, none⟩ = some (.slice none 0 0) := HR2.out.cell 3
  have zR : w.heap.size + 1 < w2.heap.size := HR2.out.lt
  clear a0 a1 a2 a3 hb2
  go_wp2_with fail
  generalize hwF : World.setCell _ _ _ = wF
  obtain ⟨hRF, kF⟩ := set4 HR2.out (.int .i64 gt) (.int .i64 gn) (.int .i64 gs) (.slice A rs.length c)
  rw [hwF] at hRF kF
  have u0 : wF.cell? ⟨w.heap.size + 1, 0, none⟩ = some (.int .i64 gt) := hRF.cell 0
  have u1 : wF.cell? ⟨w.heap.size + 1, 1, none⟩ = some (.int .i64 gn) := hRF.cell 1
  have u2 : wF.cell? ⟨w.heap.size + 1, 2, none⟩ = some (.int .i64 gs) := hRF.cell 2
  have u3 : wF.cell? ⟨w.heap.size + 1, 3, none⟩ = some (.slice A rs.length c) := hRF.cell 3
  clear hwF
  refine bodyPost_ret (v := .tuple #[.agg #[.int .i64 gt, .int .i64 gn, .int .i64 gs, .slice A rs.length c], .int .i64 0]) (by simp [results, Tryd.results70, go_sem, u0, u1, u2, u3]) rfl ⟨rfl, HB2.out.trans (kF.to_below (B := w.heap.size) (fun b (hb : b = w.heap.size + 1) => by omega) HB2.out.size)⟩

end Go.Proofs.YtnlpeiffbnlncaaDoor
