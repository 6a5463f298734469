/- Contracts: parlref2.Nulls, empty, node. -/
import Derived.Test.YtagcnhiinmiklaaDoorQRLen
import Derived.Test.YtagcnhiinmiklaaDoorQp1
import Derived.Test.YtagcnhiinmiklaaDoorQp2
import Derived.Deep.LoopGhost
import Derived.Test.YtagcnhiinmiklaaDoorQw1
import Derived.Test.YtagcnhiinmiklaaDoorQFstP
namespace Go.Proofs.YtagcnhiinmiklaaDoor
open Go.RowKit
set_option linter.unusedVariables false

theorem fill_set {α β : Type} {f : α → β} {d : β} {n : Nat} {xs : List α} {k : Nat} {x : α} (hl : xs.length = n) (h : xs[k]? = some x) : ((xs.take k).map f ++ List.replicate (n - k) d).set k (f x) = (xs.take (k + 1)).map f ++ List.replicate (n - (k + 1)) d := by
  have hk := (List.getElem?_eq_some_iff.1 h).1
  apply List.ext_getElem?
  intro j
  rw [List.getElem?_set]
  have h1 : ((xs.take k).map f).length = k := by simp; omega
  have h2 : ((xs.take (k + 1)).map f).length = k + 1 := by simp; omega
  by_cases e : k = j
  · subst e
    rw [if_pos rfl, if_pos (by simp; omega), List.getElem?_append_left (by omega)]
    simp [h]
  · rw [if_neg e]
    rcases Nat.lt_or_ge j k with hj | hj
    · rw [List.getElem?_append_left (by omega), List.getElem?_append_left (by omega)]
      simp [List.getElem?_take, hj, show j < k + 1 by omega]
    · rw [List.getElem?_append_right (by omega), List.getElem?_append_right (by omega), h1, h2, List.getElem?_replicate, List.getElem?_replicate]
      by_cases hn : j < n
      · rw [if_pos (by omega), if_pos (by omega)]
      · rw [if_neg (by omega), if_neg (by omega)]

def nullB (L : List Int) : List Bool := L.map fun x => x == 0
def RnuL (L : List Int) (n O : Nat) (w2 : World) (i : Value) (wr : World) : Prop :=
  ∃ (k : Nat) (t : List Bool), k ≤ n ∧ i = .int .i64 k ∧ t = (L.take k).map (fun x => x == 0) ++ List.replicate (n - k) false ∧ Blk' wr O 4 (bcells t) ∧ Kept (fun b => b = O) w2 wr
def RetRNull (L : List Int) (n : Nat) (w : World) (e : Ending) (w' : World) : Prop :=
  ∃ b, e = .returned (.slice (some ⟨b, 0, none⟩) n n) ∧ Blk' w' b 4 (bcells (nullB L)) ∧ w.heap.size ≤ b ∧ Below w.heap.size w w'

set_option maxRecDepth 100000 in
set_option maxHeartbeats 4000000 in
theorem rnulls_any (g : Gram) (n : Nat) (A : Option Addr) (c : Nat) (S : Nat → Prop) (w : World) (L : List Int) (hgn : g.nons = (n : Int)) (hn : 1 ≤ n ∧ n ≤ 10) (hlc : g.rules.length ≤ c) (hc : c ≤ 9223372036854775807) (hA : Els w S g.rules A) (hS : ∀ b, S b → b < w.heap.size)
    (hrl : g.rules.length ≤ 1000) (hrr : RulesIn g n) (hL : LFix g n L) :
    Calls Tryd.prog 33 #[.agg #[.int .i64 g.terms, .int .i64 g.nons, .int .i64 g.start, .slice A g.rules.length c]] w (RetRNull L n w) := by
  obtain ⟨gt, gn, gs, rs⟩ := g
  dsimp only at *
  subst hgn
  have hmk := mkBools n (by omega)
  have hll : L.length = n := hL.shape.len
  have hn9 : (n : Int) ≤ 10 := by omega
  obtain ⟨w1, hw1⟩ : ∃ w1 : World, w1 = (w.alloc (.cells #[.int .i64 gt, .int .i64 (n : Int), .int .i64 gs, .slice A rs.length c] 24)).alloc (.cells (bcells (List.replicate n false)) 4) := ⟨_, rfl⟩
  have hb1 : Below w.heap.size w w1 := by rw [hw1]; exact ((Below.refl _ _).alloc (Nat.le_refl _) _).alloc (by simp) _
  have hG1 : Blk' w1 w.heap.size 24 #[.int .i64 gt, .int .i64 (n : Int), .int .i64 gs, .slice A rs.length c] := by rw [hw1]; exact (Blk'.new w _ _).alloc _
  have hO1 : Blk' w1 (w.heap.size + 1) 4 (bcells (List.replicate n false)) := by rw [hw1]; exact Blk'.new' _ _ _ (by simp)
  have H1 := Lib.hid (And.intro hb1 (And.intro hG1 hO1))
  have HA := Lib.hid (hA.below hb1)
  have HS := Lib.hid hS
  have HRR := Lib.hid hrr
  have HL := Lib.hid hL
  have HN := Lib.hid hn
  have HW1 := Lib.hid hw1
  have g0 : w1.cell? ⟨w.heap.size, 0, none⟩ = some (.int .i64 gt) := hG1.cell 0
  have g1 : w1.cell? ⟨w.heap.size, 1, none⟩ = some (.int .i64 (n : Int)) := hG1.cell 1
  have g2 : w1.cell? ⟨w.heap.size, 2, none⟩ = some (.int .i64 gs) := hG1.cell 2
  have g3 : w1.cell? ⟨w.heap.size, 3, none⟩ = some (.slice A rs.length c) := hG1.cell 3
  have zG := hG1.lt
  clear hw1 hb1 hG1 hO1 hA hS hrr hL hn
  go_enter Tryd.func33, Tryd.ntmps33
  go_upto_region 2 with (fail)
  rw [← HW1.out]
  go_wp2_with fail
  refine (rlengths_any ⟨gt, (n : Int), gs, rs⟩ n A c S _ L rfl HN.out hlc hc HA.out (fun b hb => by have := HS.out b hb; have := H1.out.1.size; omega) hrl HRR.out HL.out).mono ?_
  rintro e w2 ⟨Lb, cl, z, rfl, hLb, hcl1, hcl2, hLge, hb2⟩
  have H2 := Lib.hid (And.intro (bthen H1.out.1 hb2 H1.out.1.size) (And.intro (H1.out.2.2.below hb2 H1.out.2.2.lt) hLb))
  have hOL : w.heap.size + 1 < Lb := by have := H1.out.2.2.lt; omega
  clear hLb hb2 g0 g1 g2 g3 H1 HA
  go_wp2_with fail
  go_loopw [12] (fun i wr => RnuL L n (w.heap.size + 1) w2 i wr) (fun i _ => n - (intOf i).toNat)
  case atStart => exact ⟨0, _, Nat.zero_le _, rfl, by simp, H2.out.2.1, Kept.refl _ _⟩
  case round =>
    obtain ⟨wo, hwo⟩ : ∃ wo : World, wo = wr := ⟨_, rfl⟩
    subst hwo
    obtain ⟨k, t, hk, rfl, ht, hB, hkp⟩ := hrel
    have HT := Lib.hid ht
    have HB := Lib.hid hB
    have HK := Lib.hid hkp
    have hLo := H2.out.2.2.kept hkp (by omega)
    have HLo := Lib.hid hLo
    have zO := hB.lt
    have zL := hLo.lt
    have htl : t.length = n := by rw [ht]; simp; omega
    have HTl := Lib.hid htl
    clear ht hB hkp hLo htl
    by_cases hkn : k < n
    · obtain ⟨x, hx⟩ := get_some (show k < L.length by omega)
      have hk0 : (0 : Int) ≤ (k : Int) := by omega
      have hk9 : (k : Int) < (n : Int) := by omega
      have cx : wo.cell? ⟨Lb, k, none⟩ = some (.int .i64 x) := (HLo.out.cell _).trans ((slack_get (by rw [icells_size, hll]; exact hkn)).trans (icells_get hx))
      have fx := HB.out.frozen k
      obtain ⟨y, hy⟩ := get_some (show k < t.length by rw [HTl.out]; exact hkn)
      have cy : wo.cell? ⟨w.heap.size + 1, k, none⟩ = some (.bool y) := (HB.out.cell _).trans (bcells_get hy)
      have HE := Lib.hid (show t.set k (x == 0) = (L.take (k + 1)).map (fun x => x == 0) ++ List.replicate (n - (k + 1)) false by rw [HT.out]; exact fill_set (f := fun x : Int => x == 0) hll hx)
      clear hx hy
      go_wp2
      go_roundw
      case rel => exact ⟨k + 1, t.set k (x == 0), hkn, by go_num, HE.out, by rw [← bcells_set]; exact HB.out.set_ k _, HK.out.setCell (p := ⟨w.heap.size + 1, k, none⟩) (.inl rfl) _⟩
      case measure => simp [intOf]; omega
    · have hkk : k = n := by omega
      have HE := Lib.hid (show t = nullB L by rw [HT.out, hkk, List.take_of_length_le (by omega)]; simp [nullB])
      have HBw := Lib.hid (bthen H2.out.1 (HK.out.to_below (B := w.heap.size) (fun b hb => by omega) H2.out.1.size) (Nat.le_refl _))
      go_wp2
      go_ret
      exact ⟨_, rfl, by rw [← HE.out]; exact HB.out, by omega, HBw.out⟩

/-- All symbols of a list become empty. -/
def emptyB (nl : List Bool) (l : List Sym) : Bool := !(l.any fun s => s.term || !(nl.getD s.n.toNat false))
theorem emptyB_iff {nl : List Bool} {l : List Sym} : emptyB nl l = true ↔ ∀ s ∈ l, s.term = false ∧ nl[s.n.toNat]? = some true := by
  unfold emptyB
  rw [Bool.not_eq_true', List.any_eq_false]
  constructor
  · intro h s hs
    have h1 := h s hs
    rw [Bool.or_eq_true, Bool.not_eq_true'] at h1
    refine ⟨?_, ?_⟩
    · cases ht : s.term
      · rfl
      · exact absurd (.inl ht) h1
    · cases hg : nl.getD s.n.toNat false
      · exact absurd (.inr hg) h1
      · exact getD_some_true.1 hg
  · intro h s hs
    obtain ⟨h1, h2⟩ := h s hs
    rw [h1, getD_some_true.2 h2]
    simp
theorem nullB_get {L : List Int} {x : Nat} : (nullB L)[x]? = some true ↔ L[x]? = some 0 := by
  unfold nullB
  rw [List.getElem?_map]
  cases L[x]? <;> simp
theorem LFix.nullB {g : Gram} {n : Nat} {L : List Int} (h : LFix g n L) (hr : RulesIn g n) {x : Nat} (hx : x < n) : (nullB L)[x]? = some true ↔ Nul g x := by
  rw [nullB_get, ← h.nul hr hx]
  have := h.shape.len
  rw [List.getD_eq_getElem?_getD, List.getElem?_eq_getElem (by omega)]
  simp

set_option maxRecDepth 100000 in
theorem rempty1_any (B b n : Nat) (nl : List Bool) (s : Sym) (w : World) (h1 : Blk' w B 66 #[.slice (some ⟨b, 0, none⟩) n n]) (h2 : Blk' w b 4 (bcells nl)) (hl : nl.length = n) (hs : 0 ≤ s.n ∧ (s.term = false → s.n.toNat < n)) :
    Calls Tryd.prog 55 #[.agg #[.bool s.term, .int .i64 s.n], .pointer (some ⟨B, 0, none⟩)] w fun e w' => e = .returned (.bool (s.term || !(nl.getD s.n.toNat false))) ∧ Below w.heap.size w w' := by
  obtain ⟨st, sn⟩ := s
  dsimp only at *
  obtain ⟨hs0, hs1⟩ := hs
  have b0 : w.cell? ⟨B, 0, none⟩ = some (.slice (some ⟨b, 0, none⟩) n n) := h1.cell 0
  have zB := h1.lt
  have zb := h2.lt
  cases st
  · have hs2 := hs1 rfl
    have hs3 : sn < (n : Int) := by omega
    obtain ⟨v, hv⟩ := get_some (show sn.toNat < nl.length by omega)
    have c0 : w.cell? ⟨b, sn.toNat, none⟩ = some (.bool v) := (h2.cell _).trans (bcells_get hv)
    have HE := Lib.hid (show nl.getD sn.toNat false = v by rw [List.getD_eq_getElem?_getD, hv]; rfl)
    clear hv h1 h2 hs1
    go_enter Tryd.func55, Tryd.ntmps55
    go_wp2
    go_ret
    exact ⟨ret_bool (by rw [HE.out]; rfl), (Below.refl _ _).alloc (Nat.le_refl _) _⟩
  · clear h1 h2 hs1
    go_enter Tryd.func55, Tryd.ntmps55
    go_wp2
    go_ret
    exact ⟨rfl, (Below.refl _ _).alloc (Nat.le_refl _) _⟩

set_option maxRecDepth 100000 in
theorem rempty_any (b n k c : Nat) (nl : List Bool) (l : List Sym) (A : Option Addr) (S : Nat → Prop) (w : World) (h2 : Blk' w b 4 (bcells nl)) (hl : nl.length = n) (hk : k = l.length) (hm : l.length ≤ 9223372036854775807) (hs : ∀ s ∈ l, 0 ≤ s.n ∧ (s.term = false → s.n.toNat < n)) (hA : Els w S l A) :
    Calls Tryd.prog 39 #[.slice (some ⟨b, 0, none⟩) n n, .slice A k c] w fun e w' => e = .returned (.bool (emptyB nl l)) ∧ Below w.heap.size w w' := by
  subst hk
  have hba : Below w.heap.size w (w.alloc (.cells #[.slice (some ⟨b, 0, none⟩) n n] 66)) := (Below.refl _ _).alloc (Nat.le_refl _) _
  have HBa := Lib.hid hba
  have HBx := Lib.hid (Blk'.new w 66 #[.slice (some ⟨b, 0, none⟩) n n])
  have HN := Lib.hid (h2.below hba h2.lt)
  have HA := Lib.hid (hA.below hba)
  have HQ := Lib.hid hs
  have hm9 : l.length ≤ 9223372036854775807 := hm
  clear hba h2 hA hs hm
  go_enter Tryd.func39, Tryd.ntmps39
  go_wp2_with fail
  refine (contSym_any A c l S _ _ _ (fun s => s.term || !(nl.getD s.n.toNat false)) hm9 HA.out (isGo_of Tryd.func55 (by kernel_rfl) (by kernel_rfl)) (fun x W hx hW => rempty1_any w.heap.size b n nl x W (HBx.out.below hW (by simp)) (HN.out.below hW HN.out.lt) hl (HQ.out x hx))).mono ?_
  rintro e w1 ⟨rfl, hb1⟩
  have HB := Lib.hid (bthen HBa.out hb1 (by simp))
  have HU := Lib.hid (show emptyB nl l = !(l.any fun s => s.term || !(nl.getD s.n.toNat false)) from rfl)
  generalize (l.any fun s => s.term || !(nl.getD s.n.toNat false)) = v at *
  clear hb1
  go_wp2
  go_ret
  exact ⟨ret_bool HU.out.symm, HB.out⟩

def nodeI (t : Int) (s : Sym) : Int := if s.term then s.n else t + s.n
set_option maxRecDepth 100000 in
theorem rnode_any (t n s0 : Int) (sl : Value) (s : Sym) (w : World) (hsl : ∃ A k c, sl = .slice A k c) (ht : 0 ≤ t ∧ t ≤ 1000) (hs : 0 ≤ s.n ∧ s.n ≤ 1000) :
    Calls Tryd.prog 40 #[.agg #[.int .i64 t, .int .i64 n, .int .i64 s0, sl], .agg #[.bool s.term, .int .i64 s.n]] w fun e w' => e = .returned (.int .i64 (nodeI t s)) ∧ Below w.heap.size w w' := by
  obtain ⟨A, k, c, rfl⟩ := hsl
  obtain ⟨st, sn⟩ := s
  dsimp only at *
  obtain ⟨ht0, ht1⟩ := ht
  obtain ⟨hs0, hs1⟩ := hs
  have HB : Hid (∀ o1 o2 : Obj, Below w.heap.size w ((w.alloc o1).alloc o2)) := Lib.hid (fun o1 o2 => ((Below.refl _ _).alloc (Nat.le_refl _) _).alloc (by simp) _)
  cases st
  · have HE := Lib.hid (show nodeI t ⟨false, sn⟩ = t + sn from rfl)
    go_enter Tryd.func40, Tryd.ntmps40
    go_wp2
    go_ret
    exact ⟨by rw [HE.out]; rfl, HB.out _ _⟩
  · have HE := Lib.hid (show nodeI t ⟨true, sn⟩ = sn from rfl)
    go_enter Tryd.func40, Tryd.ntmps40
    go_wp2
    go_ret
    exact ⟨by rw [HE.out]; rfl, HB.out _ _⟩
end Go.Proofs.YtagcnhiinmiklaaDoor
