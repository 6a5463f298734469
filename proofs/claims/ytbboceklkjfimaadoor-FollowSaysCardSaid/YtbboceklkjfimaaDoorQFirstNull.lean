/- Contracts: first.Null, first.First, of a valid grammar. -/
import Derived.Test.YtbboceklkjfimaaDoorQFirstMake
import Derived.Test.YtbboceklkjfimaaDoorQValid
import Derived.Test.YtbboceklkjfimaaDoorQStable
namespace Go.Proofs.YtbboceklkjfimaaDoor
open Go.RowKit
set_option linter.unusedVariables false

def RetNull (g : Gram) (m n : Nat) (w : World) (en : Ending) (w' : World) : Prop :=
  ∃ be e f, en = .returned (.tuple #[.slice (some ⟨be, 0, none⟩) n n, .int .i64 0]) ∧ Stable g m n e f ∧ Blk' w' be 4 (bcells e) ∧ w.heap.size ≤ be ∧ Below w.heap.size w w'
def RetFirst (g : Gram) (m n : Nat) (w : World) (en : Ending) (w' : World) : Prop :=
  ∃ bf bs cf e f, en = .returned (.tuple #[.slice (some ⟨bf, 0, none⟩) n cf, .int .i64 0]) ∧ Stable g m n e f ∧ Vl w' (fun b => w.heap.size ≤ b ∧ b < w'.heap.size) f (.slice (some ⟨bf, 0, none⟩) n cf) ∧ bs.length = n ∧
    (∀ (i b : Nat), bs[i]? = some b → w'.cell? ⟨bf, i, none⟩ = some (rowSl b m)) ∧ (∀ (i b : Nat) (row : List Bool), bs[i]? = some b → f[i]? = some row → Blk' w' b 4 (bcells row) ∧ row.length = m) ∧ (∀ b ∈ bf :: bs, w.heap.size ≤ b ∧ b < w'.heap.size) ∧ Below w.heap.size w w'

theorem SetsM.vl {w : World} {p be bf : Nat} {bs : List Nat} {m n : Nat} {gt gn gs : Int} {sl : Value} {cf : Nat} {e : List Bool} {f : List (List Bool)} (h : SetsM w p be bf bs m n gt gn gs sl cf e f) (hm : m ≤ 1000000) (hcf : n ≤ cf) (hc : cf ≤ 9223372036854775807) (S : Nat → Prop) (hS : ∀ b ∈ bf :: bs, S b) : Vl w S f (.slice (some ⟨bf, 0, none⟩) n cf) := by
  refine Vl.of_slice h.flen.symm (by rw [h.flen]; exact hcf) hc fun _ => ⟨bf, 0, rfl, hS _ (by simp), fun i row hi => ?_⟩
  have hil : i < bs.length := by have := (List.getElem?_eq_some_iff.1 hi).1; have := h.flen; have := h.blen; omega
  obtain ⟨b, hb⟩ := get_some hil
  obtain ⟨h1, h2⟩ := h.rows i b row hb hi
  have hbb : S b := hS b (by simp [List.mem_of_getElem? hb])
  refine ⟨[rowSl b m], ⟨some ⟨b, 0, none⟩, m, by rw [h2]; rfl, by omega, by unfold maxLen; omega, fun _ => ⟨b, 0, rfl, hbb, fun j x hj => ⟨[.bool x], rfl, fun k u hu => ?_⟩⟩⟩, fun k u hu => ?_⟩
  · match k, hu with
    | 0, hu =>
      simp at hu; subst hu
      have e : 0 + j * Dat.size Bool + 0 = j := by show 0 + j * 1 + 0 = j; omega
      rw [e]
      exact (h1.cell j).trans (bcells_get hj)
  · match k, hu with
    | 0, hu =>
      simp at hu; subst hu
      have e : 0 + i * Dat.size (List Bool) + 0 = i := by show 0 + i * 1 + 0 = i; omega
      rw [e]
      exact h.outer i b hb

set_option maxRecDepth 100000 in
set_option maxHeartbeats 1000000 in
theorem null_any (g : Gram) (m n : Nat) (A : Option Addr) (c : Nat) (S : Nat → Prop) (w : World) (hgt : g.terms = (m : Int)) (hgn : g.nons = (n : Int)) (hck : checkI g = 0) (hlc : g.rules.length ≤ c) (hc : c ≤ 9223372036854775807) (hA : Els w S g.rules A) (hS : ∀ b, S b → b < w.heap.size) :
    Calls Tryd.prog 15 #[.agg #[.int .i64 g.terms, .int .i64 g.nons, .int .i64 g.start, .slice A g.rules.length c]] w (RetNull g m n w) := by
  have hv := validG_of hck
  obtain ⟨gt, gn, gs, rs⟩ := g
  dsimp only at *
  have hmm : m ≤ 100 ∧ 1 ≤ n ∧ n ≤ 100 := by have := hv.t8; have := hv.n1; have := hv.n10; dsimp only at *; omega
  have HV := Lib.hid hv
  have HT := Lib.hid (And.intro hgt hgn)
  have HA := Lib.hid hA
  have HS := Lib.hid hS
  have HC := Lib.hid hck
  have HB0 : Hid (Below w.heap.size w (w.alloc (.cells #[.int .i64 gt, .int .i64 gn, .int .i64 gs, .slice A rs.length c] 35))) := Lib.hid ((Below.refl _ _).alloc (Nat.le_refl _) _)
  clear hv hgt hgn hA hS hck
  go_enter Tryd.func15, Tryd.ntmps15
  go_wp2_with fail
  refine (check_any ⟨gt, gn, gs, rs⟩ A c S _ hlc hc (HA.out.below HB0.out)).mono ?_
  rintro e w1 ⟨rfl, hb1⟩
  rw [HC.out]
  have hG := (Blk'.new w 35 #[.int .i64 gt, .int .i64 gn, .int .i64 gs, .slice A rs.length c]).below hb1 (by simp)
  have g0 : w1.cell? ⟨w.heap.size, 0, none⟩ = some (.int .i64 gt) := hG.cell 0
  have g1 : w1.cell? ⟨w.heap.size, 1, none⟩ = some (.int .i64 gn) := hG.cell 1
  have g2 : w1.cell? ⟨w.heap.size, 2, none⟩ = some (.int .i64 gs) := hG.cell 2
  have g3 : w1.cell? ⟨w.heap.size, 3, none⟩ = some (.slice A rs.length c) := hG.cell 3
  have HB1 := Lib.hid (bthen HB0.out hb1 (by simp))
  clear hb1 hG
  go_wp2_with fail
  refine (make_any ⟨gt, gn, gs, rs⟩ m n A c S _ HT.out.1 HT.out.2 hmm.1 hmm.2 hlc hc (HA.out.below HB1.out) (fun b hb => by have := HS.out b hb; have := HB1.out.size; omega) (by have := HV.out.len; dsimp only at *; omega) (fun q hq => by have h := HV.out.rules q hq; have e1 := HT.out.1; have e2 := HT.out.2; dsimp only at *; rw [← e1, ← e2]; exact ⟨h.1, h.2.1, h.2.2.2⟩)).mono ?_
  rintro e w2 ⟨p, be, bf, bs, cf, e, f, k, rfl, hM, hsh, hit, hfx, hge, hb2⟩
  have p4 : w2.cell? ⟨p, 4, none⟩ = some (.slice (some ⟨be, 0, none⟩) n n) := hM.ptr.cell 4
  have H2 := Lib.hid (And.intro hM (And.intro (Stable.mk (g := ⟨gt, gn, gs, rs⟩) hsh ⟨k, hit⟩ hfx) (And.intro hge (bthen HB1.out hb2 HB1.out.size))))
  have hz := HB1.out.size
  clear hM hsh hit hfx hge hb2 g0 g1 g2 g3
  go_wp2
  go_ret2
  exact ⟨be, e, f, rfl, H2.out.2.1, H2.out.1.empty, by have := H2.out.2.2.1 be (by simp); omega, H2.out.2.2.2⟩

set_option maxRecDepth 100000 in
set_option maxHeartbeats 1000000 in
theorem first_any (g : Gram) (m n : Nat) (A : Option Addr) (c : Nat) (S : Nat → Prop) (w : World) (hgt : g.terms = (m : Int)) (hgn : g.nons = (n : Int)) (hck : checkI g = 0) (hlc : g.rules.length ≤ c) (hc : c ≤ 9223372036854775807) (hA : Els w S g.rules A) (hS : ∀ b, S b → b < w.heap.size) :
    Calls Tryd.prog 18 #[.agg #[.int .i64 g.terms, .int .i64 g.nons, .int .i64 g.start, .slice A g.rules.length c]] w (RetFirst g m n w) := by
  have hv := validG_of hck
  obtain ⟨gt, gn, gs, rs⟩ := g
  dsimp only at *
  have hmm : m ≤ 100 ∧ 1 ≤ n ∧ n ≤ 100 := by have := hv.t8; have := hv.n1; have := hv.n10; dsimp only at *; omega
  have HV := Lib.hid hv
  have HT := Lib.hid (And.intro hgt hgn)
  have HA := Lib.hid hA
  have HS := Lib.hid hS
  have HC := Lib.hid hck
  have HB0 : Hid (Below w.heap.size w (w.alloc (.cells #[.int .i64 gt, .int .i64 gn, .int .i64 gs, .slice A rs.length c] 35))) := Lib.hid ((Below.refl _ _).alloc (Nat.le_refl _) _)
  clear hv hgt hgn hA hS hck
  go_enter Tryd.func18, Tryd.ntmps18
  go_wp2_with fail
  refine (check_any ⟨gt, gn, gs, rs⟩ A c S _ hlc hc (HA.out.below HB0.out)).mono ?_
  rintro e w1 ⟨rfl, hb1⟩
  rw [HC.out]
  have hG := (Blk'.new w 35 #[.int .i64 gt, .int .i64 gn, .int .i64 gs, .slice A rs.length c]).below hb1 (by simp)
  have g0 : w1.cell? ⟨w.heap.size, 0, none⟩ = some (.int .i64 gt) := hG.cell 0
  have g1 : w1.cell? ⟨w.heap.size, 1, none⟩ = some (.int .i64 gn) := hG.cell 1
  have g2 : w1.cell? ⟨w.heap.size, 2, none⟩ = some (.int .i64 gs) := hG.cell 2
  have g3 : w1.cell? ⟨w.heap.size, 3, none⟩ = some (.slice A rs.length c) := hG.cell 3
  have HB1 := Lib.hid (bthen HB0.out hb1 (by simp))
  clear hb1 hG
  go_wp2_with fail
  refine (make_any ⟨gt, gn, gs, rs⟩ m n A c S _ HT.out.1 HT.out.2 hmm.1 hmm.2 hlc hc (HA.out.below HB1.out) (fun b hb => by have := HS.out b hb; have := HB1.out.size; omega) (by have := HV.out.len; dsimp only at *; omega) (fun q hq => by have h := HV.out.rules q hq; have e1 := HT.out.1; have e2 := HT.out.2; dsimp only at *; rw [← e1, ← e2]; exact ⟨h.1, h.2.1, h.2.2.2⟩)).mono ?_
  rintro e w2 ⟨p, be, bf, bs, cf, e, f, k, rfl, hM, hsh, hit, hfx, hge, hb2⟩
  have p5 : w2.cell? ⟨p, 5, none⟩ = some (.slice (some ⟨bf, 0, none⟩) n cf) := hM.ptr.cell 5
  have H2 := Lib.hid (And.intro hM (And.intro (Stable.mk (g := ⟨gt, gn, gs, rs⟩) hsh ⟨k, hit⟩ hfx) (And.intro hge (bthen HB1.out hb2 HB1.out.size))))
  have hz := HB1.out.size
  clear hM hsh hit hfx hge hb2 g0 g1 g2 g3
  go_wp2
  go_ret2
  have hM := H2.out.1
  have hb3 : ∀ b ∈ bf :: bs, w.heap.size ≤ b ∧ b < w2.heap.size := fun b hb => ⟨by have := H2.out.2.2.1 b (List.mem_cons_of_mem _ (List.mem_cons_of_mem _ hb)); omega, hM.lt b (List.mem_cons_of_mem _ (List.mem_cons_of_mem _ hb))⟩
  exact ⟨bf, bs, cf, e, f, rfl, H2.out.2.1, hM.vl (by omega) hM.cap.1 hM.cap.2 _ hb3, hM.blen, hM.outer, hM.rows, hb3, H2.out.2.2.2⟩
end Go.Proofs.YtbboceklkjfimaaDoor
