/- Contract: useful.Least. -/
import Derived.Test.YtlgchgpplfhneaaDoorQWords
import Derived.Test.YtlgchgpplfhneaaDoorQUsefulLen
import Derived.Test.YtlgchgpplfhneaaDoorQRulesIn
import Derived.Test.YtlgchgpplfhneaaDoorQValid
import Derived.Test.YtlgchgpplfhneaaDoorQCheck
import Derived.Test.YtlgchgpplfhneaaDoorQCloneInt
import Derived.Test.YtlgchgpplfhneaaDoorQIslack
namespace Go.Proofs.YtlgchgpplfhneaaDoor
open Go.RowKit
set_option linter.unusedVariables false

set_option maxRecDepth 100000 in
set_option maxHeartbeats 2000000 in
theorem cloneNone_any (A : Option Addr) (c : Nat) (w : World) :
    Calls Tryd.prog 32 #[.slice A 0 c] w fun e w' => ∃ A' c', e = .returned (.slice A' 0 c') ∧ c' ≤ 9223372036854775807 ∧ Below w.heap.size w w' := by
  have q22 : ∀ (w : World) (a : Option Addr) (n c n' c' : Nat), (binOp .eql 22 (.slice a n c) (.slice none n' c')).run Tryd.prog w = .ok (.bool a.isNone) w := fun w a n c n' c' => Lib.run_eql_slice_nil w _ _ a n c n' c' Tryd.underlying22
  have HO : Hid (Own (w.alloc (.cells #[] 3)) (fun _ => False) w.heap.size 3 (.slice (some ⟨w.heap.size, 0, none⟩) 0 0) ([] : List Int)) := Lib.hid (Own.made (cap := 0) _ (Nat.le_refl _) (by omega) rfl)
  have HB : Hid (Below w.heap.size w (w.alloc (.cells #[] 3))) := Lib.hid ((Below.refl _ _).alloc (Nat.le_refl _) _)
  cases A with
  | none =>
    go_enter Tryd.func32, Tryd.ntmps32
    go_wp2
    go_ret
    exact ⟨none, 0, rfl, by omega, Below.refl _ _⟩
  | some ad =>
    go_enter Tryd.func32, Tryd.ntmps32
    go_wp2_with (at_builtin; (refine wpList_ownMany _ rfl _ _ elemInt rfl rfl HO.out ([] : List Int) rfl rfl (fun h => absurd rfl h) (by simp) (by simp) (by simp) ?_); (intro v8 w8 hown8 hg8 hat8); (obtain ⟨A8, c8, hv8, _, hc8, _⟩ := hown8.form); (subst hv8); (have HB8 := Lib.hid (bgrown HB.out hg8 HO.out (Nat.le_refl _) (by simp))); (clear hown8 hg8 hat8))
    go_ret
    exact ⟨A8, c8, rfl, hc8, HB8.out⟩
theorem cloneW_any (l : List Int) (A : Option Addr) (c n : Nat) (S : Nat → Prop) (w : World) (hl : n = l.length) (hm : l.length ≤ 1000000) (hA : Els w S l A) :
    Calls Tryd.prog 32 #[.slice A n c] w fun e w' => ∃ A' c', e = .returned (.slice A' n c') ∧ n ≤ c' ∧ c' ≤ 9223372036854775807 ∧ Els w' (fun b => w.heap.size ≤ b ∧ b < w'.heap.size) l A' ∧ Below w.heap.size w w' := by
  by_cases h0 : l = []
  · subst h0
    subst hl
    refine (cloneNone_any A c w).mono ?_
    rintro e w' ⟨A', c', rfl, h2, h3⟩
    exact ⟨A', c', rfl, Nat.zero_le _, h2, fun h => absurd rfl h, h3⟩
  · refine (cloneInt_any l A c n S w hl h0 hm hA).mono ?_
    rintro e w' ⟨b, k, z, rfl, hB, h1, h2, h3, h4⟩
    exact ⟨_, k, rfl, h1, h2, els_islack hB (fun v hv => by
      obtain ⟨i, hi⟩ := List.mem_iff_getElem?.1 hv
      obtain ⟨_, _, _, _, _, h, _⟩ := hA.int hi
      exact h) ⟨h3, hB.lt⟩, h4⟩

def RetLeast (g : Gram) (n : Nat) (k : Int) (L : List Int) (w : World) (e : Ending) (w' : World) : Prop :=
  Below w.heap.size w w' ∧
  ((¬ (0 ≤ k ∧ k < n) ∧ e = .returned (.tuple #[.slice none 0 0, .int .i64 1])) ∨
  ((0 ≤ k ∧ k < n) ∧ L.getD k.toNat 0 < 0 ∧ e = .returned (.tuple #[.slice none 0 0, .int .i64 5])) ∨
  ((0 ≤ k ∧ k < n) ∧ 2000 < L.getD k.toNat 0 ∧ e = .returned (.tuple #[.slice none 0 0, .int .i64 2])) ∨
  ((0 ≤ k ∧ k < n) ∧ 0 ≤ L.getD k.toNat 0 ∧ L.getD k.toNat 0 ≤ 2000 ∧ ∃ (W : List (List Int)) (K : List Bool) (A : Option Addr) (c : Nat), e = .returned (.tuple #[.slice A (W.getD k.toNat []).length c, .int .i64 0]) ∧ SndT g n L W K ∧ StabT g L W K ∧ (W.getD k.toNat []).length ≤ c ∧ c ≤ 9223372036854775807 ∧ (W.getD k.toNat []).length ≤ 2000 ∧ Els w' (fun b => w.heap.size ≤ b ∧ b < w'.heap.size) (W.getD k.toNat []) A))

set_option maxRecDepth 100000 in
set_option maxHeartbeats 1000000 in
theorem leastBad (g : Gram) (k : Int) (A : Option Addr) (c : Nat) (S : Nat → Prop) (w : World) (hck : ¬ checkI g = 0) (hlc : g.rules.length ≤ c) (hc : c ≤ 9223372036854775807) (hA : Els w S g.rules A) :
    Calls Tryd.prog 14 #[.agg #[.int .i64 g.terms, .int .i64 g.nons, .int .i64 g.start, .slice A g.rules.length c], .int .i64 k] w fun e w' => e = .returned (.tuple #[.slice none 0 0, .int .i64 (checkI g)]) ∧ Below w.heap.size w w' := by
  obtain ⟨gt, gn, gs, rs⟩ := g
  dsimp only at *
  have HB0 : Hid (Below w.heap.size w (w.alloc (.cells #[.int .i64 gt, .int .i64 gn, .int .i64 gs, .slice A rs.length c] 25))) := Lib.hid ((Below.refl _ _).alloc (Nat.le_refl _) _)
  have HA := Lib.hid hA
  clear hA
  go_enter Tryd.func14, Tryd.ntmps14
  go_wp2_with fail
  refine (check_any ⟨gt, gn, gs, rs⟩ A c S _ hlc hc (HA.out.below HB0.out)).mono ?_
  rintro e w1 ⟨rfl, hb1⟩
  have HB1 := Lib.hid (bthen HB0.out hb1 HB0.out.size)
  have hce' : (checkI ⟨gt, gn, gs, rs⟩ != 0) = true := by simpa using hck
  obtain ⟨ce, hE⟩ : ∃ ce, checkI ⟨gt, gn, gs, rs⟩ = ce := ⟨_, rfl⟩
  rw [hE] at hce'
  rw [hE]
  have HE := Lib.hid hE
  clear hE hb1 hck
  go_wp2
  go_ret2
  exact ⟨by rw [HE.out]; rfl, HB1.out⟩

set_option maxRecDepth 100000 in
set_option maxHeartbeats 4000000 in
theorem leastPub_any (g : Gram) (n : Nat) (k : Int) (A : Option Addr) (c : Nat) (S : Nat → Prop) (w : World) (L : List Int) (hL : LFix g n L) (hgn : g.nons = (n : Int)) (hck : checkI g = 0) (hlc : g.rules.length ≤ c) (hc : c ≤ 9223372036854775807) (hA : Els w S g.rules A) (hS : ∀ b, S b → b < w.heap.size) :
    Calls Tryd.prog 14 #[.agg #[.int .i64 g.terms, .int .i64 g.nons, .int .i64 g.start, .slice A g.rules.length c], .int .i64 k] w (RetLeast g n k L w) := by
  have hv := validG_of hck
  have hri := hv.rulesIn hgn
  have h8 : ∀ q ∈ g.rules, ∀ s ∈ q.right, s.term = true → 0 ≤ s.n ∧ s.n < 8 := fun q hq s hs ht => by
    have h1 := (hv.rules q hq).2.2.2 s hs
    have := hv.t8
    simp [ht] at h1
    omega
  obtain ⟨gt, gn, gs, rs⟩ := g
  dsimp only at *
  subst hgn
  have hn1 : 1 ≤ n ∧ n ≤ 10 := by have := hv.n1; have := hv.n10; dsimp only at *; omega
  have hrl : rs.length ≤ 32 := hv.len
  have HRI := Lib.hid hri
  have H8 := Lib.hid h8
  have HLf := Lib.hid hL
  have HA := Lib.hid hA
  have HS := Lib.hid hS
  have HC := Lib.hid hck
  have HN := Lib.hid hn1
  have HB0 : Hid (Below w.heap.size w (w.alloc (.cells #[.int .i64 gt, .int .i64 (n : Int), .int .i64 gs, .slice A rs.length c] 25))) := Lib.hid ((Below.refl _ _).alloc (Nat.le_refl _) _)
  clear hv hri hA hS hck hn1 h8 hL
  go_enter Tryd.func14, Tryd.ntmps14
  go_wp2_with fail
  refine (check_any ⟨gt, (n : Int), gs, rs⟩ A c S _ hlc hc (HA.out.below HB0.out)).mono ?_
  rintro e w1 ⟨rfl, hb1⟩
  rw [HC.out]
  have hG := (Blk'.new w 25 #[.int .i64 gt, .int .i64 (n : Int), .int .i64 gs, .slice A rs.length c]).below hb1 (by simp)
  have HG := Lib.hid hG
  have g0 : w1.cell? ⟨w.heap.size, 0, none⟩ = some (.int .i64 gt) := hG.cell 0
  have g1 : w1.cell? ⟨w.heap.size, 1, none⟩ = some (.int .i64 (n : Int)) := hG.cell 1
  have g2 : w1.cell? ⟨w.heap.size, 2, none⟩ = some (.int .i64 gs) := hG.cell 2
  have g3 : w1.cell? ⟨w.heap.size, 3, none⟩ = some (.slice A rs.length c) := hG.cell 3
  have HB1 := Lib.hid (bthen HB0.out hb1 (by simp))
  clear hb1 hG
  by_cases hk0 : k < 0
  · have d0 : decide (k < 0) = true := decide_eq_true hk0
    go_wp2
    go_ret2
    exact ⟨HB1.out, .inl ⟨by omega, rfl⟩⟩
  by_cases hkn : (n : Int) ≤ k
  · have d0 : decide (k < 0) = false := decide_eq_false hk0
    have d1 : decide ((n : Int) ≤ k) = true := decide_eq_true hkn
    go_wp2
    go_ret2
    exact ⟨HB1.out, .inl ⟨by omega, rfl⟩⟩
  have d0 : decide (k < 0) = false := decide_eq_false hk0
  have d1 : decide ((n : Int) ≤ k) = false := decide_eq_false hkn
  go_wp2_with fail
  refine (lengths_any ⟨gt, (n : Int), gs, rs⟩ n A c S _ rfl HN.out hlc hc (HA.out.below HB1.out) (fun b hb => by have := HS.out b hb; have := HB1.out.size; omega) (by show rs.length ≤ 1000; omega) HRI.out).mono ?_
  rintro e w2 ⟨LB, L', rfl, hfix, hLb, hge, hb2⟩
  have hLL : L' = L := hfix.same HLf.out HRI.out
  subst hLL
  have HB2 := Lib.hid (bthen HB1.out hb2 HB1.out.size)
  have hG2 := HG.out.below hb2 HG.out.lt
  have x0 : w2.cell? ⟨w.heap.size, 0, none⟩ = some (.int .i64 gt) := hG2.cell 0
  have x1 : w2.cell? ⟨w.heap.size, 1, none⟩ = some (.int .i64 (n : Int)) := hG2.cell 1
  have x2 : w2.cell? ⟨w.heap.size, 2, none⟩ = some (.int .i64 gs) := hG2.cell 2
  have x3 : w2.cell? ⟨w.heap.size, 3, none⟩ = some (.slice A rs.length c) := hG2.cell 3
  obtain ⟨l, hl⟩ := get_some (show k.toNat < L'.length by rw [hfix.shape.len]; omega)
  have cl_ : w2.cell? ⟨LB, k.toNat, none⟩ = some (.int .i64 l) := (hLb.cell _).trans (icells_get hl)
  have HeL : Hid (L'.getD k.toNat 0 = l) := Lib.hid (by rw [List.getD_eq_getElem?_getD, hl]; rfl)
  have hk1 : 0 ≤ k := by omega
  have hk2 : k < (n : Int) := by omega
  have HL := Lib.hid hLb
  have zG2 : w.heap.size < w2.heap.size := hG2.lt
  have zL2 : LB < w2.heap.size := hLb.lt
  clear hfix hLb hge hb2 g0 g1 g2 g3 hG2 hl d0 d1
  by_cases hl0 : l < 0
  · have d2 : decide (l < 0) = true := decide_eq_true hl0
    go_wp2
    go_ret2
    exact ⟨HB2.out, .inr (.inl ⟨⟨hk1, hk2⟩, by rw [HeL.out]; exact hl0, rfl⟩)⟩
  by_cases hl2 : 2000 < l
  · have d2 : decide (l < 0) = false := decide_eq_false hl0
    have d3 : decide (2000 < l) = true := decide_eq_true hl2
    go_wp2
    go_ret2
    exact ⟨HB2.out, .inr (.inr (.inl ⟨⟨hk1, hk2⟩, by rw [HeL.out]; exact hl2, rfl⟩))⟩
  have d2 : decide (l < 0) = false := decide_eq_false hl0
  have d3 : decide (2000 < l) = false := decide_eq_false hl2
  go_wp2_with fail
  refine (words_any ⟨gt, (n : Int), gs, rs⟩ n A c S w2 L' LB n #[] (by rw [Array.append_empty]; exact HL.out) rfl HN.out hlc hc (HA.out.below HB2.out) (fun b hb => by have := HS.out b hb; have := HB2.out.size; omega) (by show rs.length ≤ 1000; omega) HRI.out H8.out HLf.out).mono ?_
  rintro e w3 ⟨W, K, OB, rfl, hsnd, hst, hrows, hin8, hge3, hb3⟩
  have HB3 := Lib.hid (bthen HB2.out hb3 HB2.out.size)
  obtain ⟨u, hu⟩ := get_some (show k.toNat < W.length by rw [hsnd.lw]; omega)
  obtain ⟨Au, cu, hc1, hc2, hc3, hcE⟩ := hrows.at_ hu
  have hul := (hin8 u (List.mem_of_getElem? hu)).2
  have HeW : Hid (W.getD k.toNat [] = u) := Lib.hid (by rw [List.getD_eq_getElem?_getD, hu]; rfl)
  have HSn := Lib.hid (And.intro hsnd hst)
  have HcE := Lib.hid hcE
  have zO3 : OB < w3.heap.size := hrows.lt
  clear hsnd hst hrows hin8 hb3 hu hcE cl_ x0 x1 x2 x3 hge3
  go_wp2_with fail
  refine (cloneW_any u Au cu u.length _ w3 rfl (by omega) HcE.out).mono ?_
  rintro e w4 ⟨A', c', rfl, hd1, hd2, hdE, hb4⟩
  have HdE := Lib.hid (And.intro hdE (bthen HB3.out hb4 HB3.out.size))
  have hz3 := HB3.out.size
  clear hdE hb4 hc1
  go_wp2
  go_ret2
  exact ⟨HdE.out.2, .inr (.inr (.inr ⟨⟨hk1, hk2⟩, by rw [HeL.out]; omega, by rw [HeL.out]; omega, W, K, A', c', by rw [HeW.out]; rfl, HSn.out.1, HSn.out.2, by rw [HeW.out]; exact hd1, hd2, by rw [HeW.out]; exact hul, by rw [HeW.out]; exact HdE.out.1.keep (fun _ _ _ => rfl) (fun b hb => ⟨by have := hb.1; omega, hb.2⟩)⟩))⟩
end Go.Proofs.YtlgchgpplfhneaaDoor
