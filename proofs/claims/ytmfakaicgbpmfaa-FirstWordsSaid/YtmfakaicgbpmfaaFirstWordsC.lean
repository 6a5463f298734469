/- The walk of the law FirstWords. -/
import Derived.Test.YtmfakaicgbpmfaaFirstNull
import Derived.Test.YtmfakaicgbpmfaaMakeTreeTop
import Derived.Test.YtmfakaicgbpmfaaYield
import Derived.Test.YtmfakaicgbpmfaaApartP
import Derived.Test.YtmfakaicgbpmfaaWorks
import Derived.Test.YtmfakaicgbpmfaaOpen
import Derived.Deep.OwnRows
namespace Go.Proofs.Ytmfakaicgbpmfaa
open Go.RowKit
set_option linter.unusedVariables false

theorem Stable.closed {g : Gram} {m n : Nat} {e : List Bool} {f : List (List Bool)} (h : Stable g m n e f) (hn : g.nons = (n : Int)) (hv : ValidG g) : ClosedS g m e f :=
  closed_of (by have := h.shape; rw [hn]; simpa using this) (fun q hq => by have := hv.rules q hq; omega) h.fix
theorem ValidG.symIn {g : Gram} (hv : ValidG g) {m : Nat} (hm : g.terms = (m : Int)) : ∀ q ∈ g.rules, ∀ s ∈ q.right, SymIn m g s := fun q hq s hs => by
  have h := (hv.rules q hq).2.2.2 s hs
  rw [hm] at h
  exact h

set_option maxRecDepth 100000 in
set_option maxHeartbeats 2000000 in
theorem firstWords_any (A0 : Option Addr) (c0 : Nat) (raw : List Int) (B0 : Option Addr) (d0 : Nat) (ch : List Int) (S0 : Nat → Prop) (w : World) (h1 : raw.length ≤ c0) (h2 : c0 ≤ 9223372036854775807) (hA0 : Els w S0 raw A0) (h3 : ch.length ≤ d0) (h4 : d0 ≤ 9223372036854775807) (hB0 : Els w S0 ch B0) (hS0 : ∀ b, S0 b → b < w.heap.size) :
    Calls Try.prog 7 #[.slice A0 raw.length c0, .slice B0 ch.length d0] w fun e w' => e = .returned (.bool true) ∧ Below w.heap.size w w' := by
  have HB := Lib.hid hB0
  have HS := Lib.hid hS0
  clear hB0 hS0
  go_enter Try.func7, Try.ntmps7
  go_wp2_with fail
  refine (grammar_any A0 c0 raw S0 _ h1 h2 hA0 HS.out).mono ?_
  rintro e w1 ⟨g, v, hmade, rfl, hvl, hb1⟩
  obtain ⟨s, rfl, _, _, _, hs⟩ := hvl.gram
  obtain ⟨A, c, rfl, hlc, hc, hA⟩ := hs.slice
  have hck := made_check hmade
  have hvg := valid_of hck
  obtain ⟨t, nn, s0, rs⟩ := g
  dsimp only at *
  obtain ⟨m, hm⟩ : ∃ m : Nat, t = (m : Int) := ⟨t.toNat, by have := hvg.t1; dsimp only at this; omega⟩
  obtain ⟨n, hn⟩ : ∃ n : Nat, nn = (n : Int) := ⟨nn.toNat, by have := hvg.n1; dsimp only at this; omega⟩
  obtain ⟨s1, hs1⟩ : ∃ n : Nat, s0 = (n : Int) := ⟨s0.toNat, by have := hvg.s0; dsimp only at this; omega⟩
  subst hm; subst hn; subst hs1
  have hsn : s1 < n := by have := hvg.s1; dsimp only at this; omega
  have hnn : n ≤ 10 := by have := hvg.n10; dsimp only at this; omega
  have hmm : m ≤ 8 := by have := hvg.t8; dsimp only at this; omega
  have HCk := Lib.hid hck
  have HV := Lib.hid hvg
  have hba : Below w1.heap.size w1 (w1.alloc (.cells #[.int .i64 (m : Int), .int .i64 (n : Int), .int .i64 (s1 : Int), .slice A rs.length c] 35)) := (Below.refl _ _).alloc (Nat.le_refl _) _
  have HA1 := Lib.hid ((hA.keep (S' := fun b => b < w1.heap.size) (fun _ _ _ => rfl) (fun b hb => hb.2)).below hba)
  have HB1 := Lib.hid (bthen hb1 hba hb1.size)
  have HG1 := Lib.hid (Blk'.new w1 35 #[.int .i64 (m : Int), .int .i64 (n : Int), .int .i64 (s1 : Int), .slice A rs.length c])
  have HBc := Lib.hid (HB.out.below (bthen hb1 hba hb1.size))
  have hz1 : w.heap.size ≤ w1.heap.size := hb1.size
  clear hvl hs hA hb1 hba hmade hA0 hck hvg
  go_wp2_with fail
  refine (makeTree_any ⟨(m : Int), (n : Int), (s1 : Int), rs⟩ A c ch B0 d0 (fun b => b < w1.heap.size) S0 _ HV.out.i64 hlc hc (by have := HV.out.len; omega) (fun q hq => by have := (HV.out.rules q hq).2.2.1; omega) HA1.out (fun b hb => by simp; omega) h3 h4 HBc.out (fun b hb => by have := HS.out b hb; simp; omega)).mono ?_
  rintro e w2 ⟨v, ok, rfl, hb2, ⟨ta, tb, TA, tn, tc, rfl⟩, hok⟩
  have hbt : Below w2.heap.size w2 (w2.alloc (.cells #[.int .i64 ta, .int .i64 tb, .slice TA tn tc] 73)) := (Below.refl _ _).alloc (Nat.le_refl _) _
  have hb2t := bthen hb2 hbt hb2.size
  have HA2 := Lib.hid (HA1.out.below hb2t)
  have HB2 := Lib.hid (bthen HB1.out hb2t HB1.out.size)
  have hG2 := (HG1.out.below hb2 HG1.out.lt).alloc (.cells #[.int .i64 ta, .int .i64 tb, .slice TA tn tc] 73)
  have HG2 := Lib.hid hG2
  have hz2 : w1.heap.size < w2.heap.size := by have := hb2.size; simp at this; omega
  have g0 : w2.cell? ⟨w1.heap.size, 0, none⟩ = some (.int .i64 (m : Int)) := (HG1.out.below hb2 HG1.out.lt).cell 0
  have g1 : w2.cell? ⟨w1.heap.size, 1, none⟩ = some (.int .i64 (n : Int)) := (HG1.out.below hb2 HG1.out.lt).cell 1
  have g2 : w2.cell? ⟨w1.heap.size, 2, none⟩ = some (.int .i64 (s1 : Int)) := (HG1.out.below hb2 HG1.out.lt).cell 2
  have g3 : w2.cell? ⟨w1.heap.size, 3, none⟩ = some (.slice A rs.length c) := (HG1.out.below hb2 HG1.out.lt).cell 3
  have HT2 := Lib.hid (And.intro hok (Blk'.new w2 73 #[.int .i64 ta, .int .i64 tb, .slice TA tn tc]))
  have HZ2 : Hid (∀ b, b < w1.heap.size → b < (w2.alloc (.cells #[.int .i64 ta, .int .i64 tb, .slice TA tn tc] 73)).heap.size) := Lib.hid (fun b hb => by simp; omega)
  have HBt := Lib.hid hbt
  clear hb2 hb2t hbt hG2 hok HA1 HG1 HB1 HBc
  go_wp2_with fail
  refine (null_any ⟨(m : Int), (n : Int), (s1 : Int), rs⟩ m n A c _ _ rfl rfl HCk.out hlc hc HA2.out HZ2.out).mono ?_
  rintro e w3 ⟨be, ne, nf, rfl, hst3, hE3, hge3, hb3⟩
  have HA3 := Lib.hid (HA2.out.below hb3)
  have HB3 := Lib.hid (bthen HB2.out hb3 HB2.out.size)
  have hG3 := HG2.out.below hb3 HG2.out.lt
  have HG3 := Lib.hid hG3
  have HT3 := Lib.hid (HT2.out.2.below hb3 HT2.out.2.lt)
  have HE3 := Lib.hid (And.intro hst3 (And.intro hE3 hge3))
  have h0 : w3.cell? ⟨w1.heap.size, 0, none⟩ = some (.int .i64 (m : Int)) := hG3.cell 0
  have h1' : w3.cell? ⟨w1.heap.size, 1, none⟩ = some (.int .i64 (n : Int)) := hG3.cell 1
  have h2' : w3.cell? ⟨w1.heap.size, 2, none⟩ = some (.int .i64 (s1 : Int)) := hG3.cell 2
  have h3' : w3.cell? ⟨w1.heap.size, 3, none⟩ = some (.slice A rs.length c) := hG3.cell 3
  have hz3 : w2.heap.size < w3.heap.size := by have := hb3.size; simp at this; omega
  have HBt3 := Lib.hid (HBt.out.trans (hb3.mono (by simp)))
  clear hst3 hE3 hge3 hb3 hG3 HA2 HG2 HB2 g0 g1 g2 g3 HBt HZ2
  go_wp2_with fail
  refine (first_any ⟨(m : Int), (n : Int), (s1 : Int), rs⟩ m n A c _ _ rfl rfl HCk.out hlc hc HA3.out (fun b hb => by omega)).mono ?_
  rintro e w4 ⟨bf, bs, cf, fe, ff, rfl, hst4, hvf4, hbl4, hou4, hro4, hge4, hb4⟩
  have HB4 := Lib.hid (bthen HB3.out hb4 HB3.out.size)
  have hG4 := HG3.out.below hb4 HG3.out.lt
  have HG4 := Lib.hid hG4
  have HT4 := Lib.hid (HT3.out.below hb4 HT3.out.lt)
  have HE4 := Lib.hid (HE3.out.2.1.below hb4 HE3.out.2.1.lt)
  have HBt4 := Lib.hid (bthen HBt3.out hb4 (by omega))
  have h41 : w4.cell? ⟨w1.heap.size, 1, none⟩ = some (.int .i64 (n : Int)) := hG4.cell 1
  have HF4 := Lib.hid (And.intro hst4 (And.intro hbl4 (And.intro hou4 (And.intro hro4 hge4))))
  have hz4 : w3.heap.size ≤ w4.heap.size := hb4.size
  clear hst4 hvf4 hbl4 hou4 hro4 hge4 hb4 hG4 h0 h1' h2' h3' HA3 HG3 HT3 HB3 HBt3
  go_wp2_with fail
  refine (works_any _).mono ?_
  rintro e w5 ⟨rfl, hb5⟩
  have hG5 := HG4.out.below hb5 HG4.out.lt
  have h51 : w5.cell? ⟨w1.heap.size, 1, none⟩ = some (.int .i64 (n : Int)) := hG5.cell 1
  have HG5 := Lib.hid hG5
  have HB5 := Lib.hid (bthen HB4.out hb5 HB4.out.size)
  have HT5 := Lib.hid (HT4.out.below hb5 HT4.out.lt)
  have HE5 := Lib.hid (HE4.out.below hb5 HE4.out.lt)
  have HBt5 := Lib.hid (bthen HBt4.out hb5 (by omega))
  have HF5 := Lib.hid hb5
  have hz5 : w4.heap.size ≤ w5.heap.size := hb5.size
  have hn9 : (n : Int) ≤ 10 := by omega
  clear hb5 hG5 HG4 HT4 HE4 HBt4 HB4 h41
  cases ok
  · go_wp2
    go_ret
    exact ⟨rfl, HB5.out⟩
  · obtain ⟨tr, hvt, hvl, hyl⟩ := HT2.out.1 rfl
    obtain ⟨sv, hsv, hr6, ht6, hks⟩ := hvl.tree
    obtain ⟨KA, kc, rfl, hk1, hk2, hKA⟩ := hks.slice
    injection hsv with hsv
    simp at hsv
    obtain ⟨e1, e2, e3, e4, e5⟩ := hsv
    subst e1; subst e2; subst e3; subst e4; subst e5
    have t0 : w5.cell? ⟨w2.heap.size, 0, none⟩ = some (.int .i64 tr.rule) := HT5.out.cell 0
    have t1 : w5.cell? ⟨w2.heap.size, 1, none⟩ = some (.int .i64 tr.term) := HT5.out.cell 1
    have t2 : w5.cell? ⟨w2.heap.size, 2, none⟩ = some (.slice TA tr.kids.length tc) := HT5.out.cell 2
    have HKA := Lib.hid ((hKA.keep (S' := fun b => b < w2.heap.size) (fun _ _ _ => rfl) (fun b hb => hb.2)).below HBt5.out)
    have HVt := Lib.hid hvt
    have HYl := Lib.hid hyl
    clear hvt hvl hyl hks hKA
    go_wp2_with fail
    refine (yield_any tr TA tc _ _ (fun b hb => by omega) hr6 ht6 hk1 hk2 HKA.out (by have := HYl.out; omega)).mono ?_
    rintro e w6 ⟨v, rfl, hown, hb6⟩
    have hG6 := HG5.out.below hb6 HG5.out.lt
    have h62 : w6.cell? ⟨w1.heap.size, 2, none⟩ = some (.int .i64 (s1 : Int)) := hG6.cell 2
    have HB6 := Lib.hid (bthen HB5.out hb6 HB5.out.size)
    have hE6 := HE5.out.below hb6 HE5.out.lt
    obtain ⟨VA, vc, rfl, hv1, hv2, _⟩ := hown.form
    have hft := first_tree (HE3.out.1.closed rfl HV.out) (HV.out.symIn rfl) tr ⟨false, (s1 : Int)⟩ HVt.out rfl
    have hff := first_tree (HF4.out.1.closed rfl HV.out) (HV.out.symIn rfl) tr ⟨false, (s1 : Int)⟩ HVt.out rfl
    have hbb := (HF5.out.trans (hb6.mono hz5))
    obtain ⟨b1, hb1⟩ := get_some (show s1 < bs.length by have := HF4.out.2.1; omega)
    obtain ⟨row, hrow⟩ := get_some (show s1 < ff.length by have := HF4.out.1.shape.f; dsimp only at this; omega)
    have ho6 : w6.cell? ⟨bf, s1, none⟩ = some (.slice (some ⟨b1, 0, none⟩) m m) := by
      have h := HF4.out.2.2.1 s1 b1 hb1
      rw [hbb.cell (p := ⟨bf, s1, none⟩) (HF4.out.2.2.2.2 bf (by simp)).2]
      exact h
    have hr6' := (HF4.out.2.2.2.1 s1 b1 row hb1 hrow).1.below hbb (HF4.out.2.2.2.2 b1 (by simp [List.mem_of_getElem? hb1])).2
    have hs9 : (s1 : Int) < (n : Int) := by omega
    have hs0 : (0 : Int) ≤ (s1 : Int) := by omega
    clear hb6 hG6 hbb HE5 HG5 t0 t1 t2 h51 HB5
    cases hy : yieldT tr with
    | nil =>
      rw [hy] at hft
      have hev := hft.1 rfl
      simp at hev
      have e6 : w6.cell? ⟨be, s1, none⟩ = some (.bool true) := (hE6.cell s1).trans (bcells_get (by
        have h9 : s1 < ne.length := by have := HE3.out.1.shape.e; dsimp only at this; omega
        rw [List.getElem?_eq_getElem h9] at hev ⊢
        simpa using hev))
      clear hft hff hown hy hev
      have hl : (([] : List Int).length) = 0 := rfl
      go_wp2
      go_ret
      exact ⟨rfl, HB6.out⟩
    | cons x xs =>
      rw [hy] at hff hown
      obtain ⟨hx0, hx1, hx2⟩ := hff.2 x xs rfl
      dsimp only at hx2
      rw [List.getD_eq_getElem?_getD, show (s1 : Int).toNat = s1 from by omega, hrow] at hx2
      simp only [Option.getD_some] at hx2
      obtain ⟨gb, cb, cs, hvb, _, hgb, ⟨hcs, hij⟩, hat⟩ := hown.at_ (k := 0) (x := x) rfl
      subst hcs
      injection hvb with e1 e2 e3
      subst e1; subst e3
      have hcj : w6.cell? ⟨gb, 0, none⟩ = some (.int .i64 x) := by have h := hat.c0; simpa using h
      have hcr : w6.cell? ⟨b1, x.toNat, none⟩ = some (.bool true) := (hr6'.cell _).trans (bcells_get hx2)
      clear hft hff hown hy hx2 hat hr6' hE6
      go_wp2
      go_ret
      exact ⟨rfl, HB6.out⟩

theorem firstWords_row (raw ch : List Int) (v0 v1 : Value) (W : World) (h0 : Vl W (OldS W) raw v0) (h1 : Vl W (OldS W) ch v1) :
    Calls Try.prog 7 #[v0, v1] W fun e W' => e = .returned (.bool true) ∧ Below W.heap.size W W' := by
  obtain ⟨A, c, rfl, k1, k2, hA⟩ := h0.slice
  obtain ⟨B, d, rfl, k3, k4, hB⟩ := h1.slice
  exact firstWords_any A c raw B d ch (OldS W) W k1 k2 hA k3 k4 hB (fun b h => h)
end Go.Proofs.Ytmfakaicgbpmfaa
