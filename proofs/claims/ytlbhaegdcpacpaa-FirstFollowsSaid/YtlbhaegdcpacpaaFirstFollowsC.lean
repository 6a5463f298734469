/- The walk of the law FirstFollows. -/
import Derived.Test.YtlbhaegdcpacpaaFirstFollowsG
import Derived.Test.YtlbhaegdcpacpaaPredict
import Derived.Test.YtlbhaegdcpacpaaMakeTreeTop
import Derived.Test.YtlbhaegdcpacpaaApartP
import Derived.Test.YtlbhaegdcpacpaaWorks
import Derived.Test.YtlbhaegdcpacpaaGrammar
import Derived.Test.YtlbhaegdcpacpaaOpen
import Derived.Deep.OwnRows
import Derived.Deep.RegionLaw
namespace Go.Proofs.Ytlbhaegdcpacpaa
open Go.RowKit
set_option linter.unusedVariables false

theorem blk_at1 {w : World} {g : Nat} {t : TypeId} {v : Value} (h : Blk' w g t #[v]) : At w g 0 [v] := by
  intro j u hu
  match j, hu with
  | 0, hu =>
    simp at hu
    subst hu
    exact h.cell 0
theorem own_elsI {w : World} {S : Nat → Prop} {base : Nat} {e : TypeId} {A : Option Addr} {n c : Nat} {xs : List Int} (h : Own w S base e (.slice A n c) xs) : Els w (fun b => A = some ⟨b, 0, none⟩) xs A := by
  intro hne
  obtain ⟨x0, hx0⟩ := get_some (List.length_pos_iff.2 hne)
  obtain ⟨g, c0, cs, hv, _, _, _, _⟩ := h.at_ hx0
  injection hv with e1 e2 e3
  refine ⟨g, 0, e1, e1, fun i x hi => ?_⟩
  obtain ⟨g', c1, cs, hv', _, _, hr, hat⟩ := h.at_ hi
  injection hv' with e4 e5 e6
  rw [e1] at e4
  injection e4 with e4
  injection e4 with e4
  subst e4
  exact ⟨cs, hr, by rw [Nat.zero_add]; exact hat⟩
/-- The law's word and its box. -/
def BoxW (w5 : World) (tr : Tree) (m : Nat) (p : Value) (wx : World) : Prop :=
  ∃ WB Aw cw, p = .pointer (some ⟨WB, 0, none⟩) ∧ Blk' wx WB 39 #[.slice Aw ((yieldT tr).length + 1) cw] ∧ Els wx (fun b => Aw = some ⟨b, 0, none⟩) (yieldT tr ++ [(m : Int)]) Aw ∧ Below w5.heap.size w5 wx
theorem boxW_new {w5 w9 : World} {tr : Tree} {m : Nat} {A9 : Option Addr} {k9 : Nat} (hb : Below w5.heap.size w5 w9) (hE : Els w9 (fun b => A9 = some ⟨b, 0, none⟩) (yieldT tr ++ [(m : Int)]) A9) :
    BoxW w5 tr m (.pointer (some ⟨w9.heap.size, 0, none⟩)) (w9.alloc (.cells #[.slice A9 ((yieldT tr).length + 1) k9] 39)) :=
  ⟨_, _, _, rfl, Blk'.new _ _ _, hE.below ((Below.refl _ _).alloc (Nat.le_refl _) _), hb.alloc hb.size _⟩
theorem boxW_set {w5 w9 : World} {tr : Tree} {m WB : Nat} {A9 : Option Addr} {k9 : Nat} {u : Value} (hb : Below w5.heap.size w5 w9) (hE : Els w9 (fun b => A9 = some ⟨b, 0, none⟩) (yieldT tr ++ [(m : Int)]) A9) (hX : Blk' w9 WB 39 #[u]) (hW : w5.heap.size ≤ WB) (hN : ∀ b, A9 = some ⟨b, 0, none⟩ → b ≠ WB) :
    BoxW w5 tr m (.pointer (some ⟨WB, 0, none⟩)) (w9.setCell ⟨WB, 0, none⟩ (.slice A9 ((yieldT tr).length + 1) k9)) :=
  ⟨WB, A9, k9, rfl, hX.set_ 0 _, hE.keep (fun p hp _ => World.cell?_setCell_far _ _ _ _ (fun e => hN _ hp e.symm)) (fun _ h => h), hb.setCell hW _⟩

set_option maxRecDepth 100000 in
set_option maxHeartbeats 2000000 in
theorem firstFollows_any (A0 : Option Addr) (c0 : Nat) (raw : List Int) (B0 : Option Addr) (d0 : Nat) (ch : List Int) (S0 : Nat → Prop) (w : World) (h1 : raw.length ≤ c0) (h2 : c0 ≤ 9223372036854775807) (hA0 : Els w S0 raw A0) (h3 : ch.length ≤ d0) (h4 : d0 ≤ 9223372036854775807) (hB0 : Els w S0 ch B0) (hS0 : ∀ b, S0 b → b < w.heap.size) :
    Calls Try.prog 4 #[.slice A0 raw.length c0, .slice B0 ch.length d0] w fun e w' => e = .returned (.bool true) ∧ Below w.heap.size w w' := by
  have HB := Lib.hid hB0
  have HS := Lib.hid hS0
  clear hB0 hS0
  go_enter Try.func4, Try.ntmps4
  go_wp2_with fail
  refine (grammar_any A0 c0 raw S0 _ h1 h2 hA0 HS.out).mono ?_
  rintro e w1 ⟨g, v, hmade, rfl, hvl, hb1⟩
  obtain ⟨s, rfl, _, _, _, hs⟩ := hvl.gram
  obtain ⟨A, c, rfl, hlc, hc, hA⟩ := hs.slice
  have hck := made_check hmade
  have hvg := validG_of hck
  obtain ⟨t, nn, s0, rs⟩ := g
  dsimp only at *
  obtain ⟨m, hm⟩ : ∃ m : Nat, t = (m : Int) := ⟨t.toNat, by have := hvg.t1; dsimp only at this; omega⟩
  obtain ⟨n, hn⟩ : ∃ n : Nat, nn = (n : Int) := ⟨nn.toNat, by have := hvg.n1; dsimp only at this; omega⟩
  obtain ⟨s1, hs1⟩ : ∃ n : Nat, s0 = (n : Int) := ⟨s0.toNat, by have := hvg.s0; dsimp only at this; omega⟩
  subst hm; subst hn; subst hs1
  have hsn : s1 < n := by have := hvg.s1; dsimp only at this; omega
  have hnn : n ≤ 10 := by have := hvg.n10; dsimp only at this; omega
  have hmm : m ≤ 8 := by have := hvg.t8; dsimp only at this; omega
  have HCk := Lib.hid hck
  have HV := Lib.hid hvg
  have hba : Below w1.heap.size w1 (w1.alloc (.cells #[.int .i64 (m : Int), .int .i64 (n : Int), .int .i64 (s1 : Int), .slice A rs.length c] 38)) := (Below.refl _ _).alloc (Nat.le_refl _) _
  have HA1 := Lib.hid ((hA.keep (S' := fun b => b < w1.heap.size) (fun _ _ _ => rfl) (fun b hb => hb.2)).below hba)
  have HB1 := Lib.hid (bthen hb1 hba hb1.size)
  have HG1 := Lib.hid (Blk'.new w1 38 #[.int .i64 (m : Int), .int .i64 (n : Int), .int .i64 (s1 : Int), .slice A rs.length c])
  have HBc := Lib.hid (HB.out.below (bthen hb1 hba hb1.size))
  have hz1 : w.heap.size ≤ w1.heap.size := hb1.size
  clear hvl hs hA hb1 hba hmade hA0 hck hvg
  go_wp2_with fail
  refine (makeTree_any ⟨(m : Int), (n : Int), (s1 : Int), rs⟩ A c ch B0 d0 (fun b => b < w1.heap.size) S0 _ HV.out.i64 hlc hc (by have := HV.out.len; omega) (fun q hq => by have := (HV.out.rules q hq).2.2.1; omega) HA1.out (fun b hb => by simp; omega) h3 h4 HBc.out (fun b hb => by have := HS.out b hb; simp; omega)).mono ?_
  rintro e w2 ⟨v, ok, rfl, hb2, ⟨ta, tb, TA, tn, tc, rfl⟩, hok⟩
  have hbt : Below w2.heap.size w2 (w2.alloc (.cells #[.int .i64 ta, .int .i64 tb, .slice TA tn tc] 27)) := (Below.refl _ _).alloc (Nat.le_refl _) _
  have hb2t := bthen hb2 hbt hb2.size
  have HA2 := Lib.hid (HA1.out.below hb2t)
  have HB2 := Lib.hid (bthen HB1.out hb2t HB1.out.size)
  have hG2 := (HG1.out.below hb2 HG1.out.lt).alloc (.cells #[.int .i64 ta, .int .i64 tb, .slice TA tn tc] 27)
  have HG2 := Lib.hid hG2
  have hz2 : w1.heap.size < w2.heap.size := by have := hb2.size; simp at this; omega
  have g0 : w2.cell? ⟨w1.heap.size, 0, none⟩ = some (.int .i64 (m : Int)) := (HG1.out.below hb2 HG1.out.lt).cell 0
  have g1 : w2.cell? ⟨w1.heap.size, 1, none⟩ = some (.int .i64 (n : Int)) := (HG1.out.below hb2 HG1.out.lt).cell 1
  have g2 : w2.cell? ⟨w1.heap.size, 2, none⟩ = some (.int .i64 (s1 : Int)) := (HG1.out.below hb2 HG1.out.lt).cell 2
  have g3 : w2.cell? ⟨w1.heap.size, 3, none⟩ = some (.slice A rs.length c) := (HG1.out.below hb2 HG1.out.lt).cell 3
  have HT2 := Lib.hid (And.intro hok (Blk'.new w2 27 #[.int .i64 ta, .int .i64 tb, .slice TA tn tc]))
  have HZ2 : Hid (∀ b, b < w1.heap.size → b < (w2.alloc (.cells #[.int .i64 ta, .int .i64 tb, .slice TA tn tc] 27)).heap.size) := Lib.hid (fun b hb => by simp; omega)
  have HBt := Lib.hid hbt
  clear hb2 hb2t hbt hG2 hok HA1 HG1 HB1 HBc
  go_wp2_with fail
  refine (followPub_any ⟨(m : Int), (n : Int), (s1 : Int), rs⟩ m n A c _ _ rfl rfl HCk.out hlc hc HA2.out HZ2.out).mono ?_
  rintro en w3 ⟨fe, ff, inn, bf, bs, cf, fol, rfl, hst3, hin3, hR3, hcl3, _, hge3, hb3⟩
  have HA3 := Lib.hid (HA2.out.below hb3)
  have HB3 := Lib.hid (bthen HB2.out hb3 HB2.out.size)
  have hG3 := HG2.out.below hb3 HG2.out.lt
  have HT3 := Lib.hid (HT2.out.2.below hb3 HT2.out.2.lt)
  have hz3 : w2.heap.size < w3.heap.size := by have := hb3.size; simp at this; omega
  have HBt3 := Lib.hid (HBt.out.trans (hb3.mono (by simp)))
  have hf3 : Below w3.heap.size w3 (w3.alloc (.cells #[.slice (some ⟨bf, 0, none⟩) n cf] 50)) := (Below.refl _ _).alloc (Nat.le_refl _) _
  have HF3 := Lib.hid (And.intro hst3 (And.intro hin3 (And.intro hcl3 hge3)))
  have HR3 := Lib.hid (hR3.below hf3)
  have HFB := Lib.hid (Blk'.new w3 50 #[.slice (some ⟨bf, 0, none⟩) n cf])
  have HA3 := Lib.hid (HA3.out.below hf3)
  have HB3 := Lib.hid (bthen HB3.out hf3 HB3.out.size)
  have HT3 := Lib.hid (HT3.out.below hf3 HT3.out.lt)
  have HBt3 := Lib.hid (bthen HBt3.out hf3 (by omega))
  have h0 : w3.cell? ⟨w1.heap.size, 0, none⟩ = some (.int .i64 (m : Int)) := hG3.cell 0
  have h1' : w3.cell? ⟨w1.heap.size, 1, none⟩ = some (.int .i64 (n : Int)) := hG3.cell 1
  have h2' : w3.cell? ⟨w1.heap.size, 2, none⟩ = some (.int .i64 (s1 : Int)) := hG3.cell 2
  have h3' : w3.cell? ⟨w1.heap.size, 3, none⟩ = some (.slice A rs.length c) := hG3.cell 3
  have HG3 := Lib.hid (hG3.below hf3 hG3.lt)
  have zG3 : w1.heap.size < w3.heap.size := by omega
  clear hst3 hin3 hR3 hcl3 hge3 hb3 hG3 hf3 HA2 HG2 HB2 g0 g1 g2 g3 HBt HZ2
  go_wp2_with fail
  refine (predict_any ⟨(m : Int), (n : Int), (s1 : Int), rs⟩ m n A c (fun b => b < w1.heap.size) _ rfl rfl HCk.out hlc hc HA3.out (fun b hb => by simp; omega)).mono ?_
  rintro en w4 ⟨fe2, ff2, inn2, fol2, v4, rfl, hst4, hin4, hcl4, _, hvl4, hb4⟩
  obtain ⟨Ap, cp, rfl, hp1, hp2, hEp⟩ := hvl4.slice
  have hz4 : w3.heap.size < w4.heap.size := by have := hb4.size; simp at this; omega
  have hf4 : Below w4.heap.size w4 (w4.alloc (.cells #[.slice Ap (rs.map (predRow m fe2 ff2 fol2)).length cp] 50)) := (Below.refl _ _).alloc (Nat.le_refl _) _
  have hb4' := bthen hb4 hf4 hb4.size
  have HF4 := Lib.hid (And.intro hst4 (And.intro hin4 hcl4))
  have HPl : (rs.map (predRow m fe2 ff2 fol2)).length = rs.length := by simp
  have HEp := Lib.hid (hEp.below hf4)
  have HPB := Lib.hid (Blk'.new w4 50 #[.slice Ap (rs.map (predRow m fe2 ff2 fol2)).length cp])
  have f40 : w4.cell? ⟨w3.heap.size, 0, none⟩ = some (.slice (some ⟨bf, 0, none⟩) n cf) := (HFB.out.below hb4 HFB.out.lt).cell 0
  have HFB4 := Lib.hid (HFB.out.below hb4' HFB.out.lt)
  have HR4 := Lib.hid (HR3.out.below hb4')
  have HA4 := Lib.hid (HA3.out.below hb4')
  have HB4 := Lib.hid (bthen HB3.out hb4' HB3.out.size)
  have HT4 := Lib.hid (HT3.out.below hb4' HT3.out.lt)
  have HBt4 := Lib.hid (bthen HBt3.out hb4' (by simp; omega))
  have HG4 := Lib.hid (HG3.out.below hb4' HG3.out.lt)
  clear hst4 hin4 hcl4 hvl4 hb4 hb4' hf4 hEp h0 h1' h2' h3' HFB HR3 HA3 HB3 HT3 HBt3 HG3
  rw [HPl]
  go_wp2_with fail
  refine (works_any _).mono ?_
  rintro e w5 ⟨rfl, hb5⟩
  rw [← HPl] at hb5
  have hG5 := HG4.out.below hb5 HG4.out.lt
  have h50 : w5.cell? ⟨w1.heap.size, 0, none⟩ = some (.int .i64 (m : Int)) := hG5.cell 0
  have h51 : w5.cell? ⟨w1.heap.size, 1, none⟩ = some (.int .i64 (n : Int)) := hG5.cell 1
  have h53 : w5.cell? ⟨w1.heap.size, 3, none⟩ = some (.slice A rs.length c) := hG5.cell 3
  have f50 : w5.cell? ⟨w3.heap.size, 0, none⟩ = some (.slice (some ⟨bf, 0, none⟩) n cf) := (HFB4.out.below hb5 HFB4.out.lt).cell 0
  have p50 : w5.cell? ⟨w4.heap.size, 0, none⟩ = some (.slice Ap rs.length cp) := by rw [← HPl]; exact (HPB.out.below hb5 HPB.out.lt).cell 0
  have HFB5 := Lib.hid (HFB4.out.below hb5 HFB4.out.lt)
  have HPB5 := Lib.hid (HPB.out.below hb5 HPB.out.lt)
  have HR5 := Lib.hid (HR4.out.below hb5)
  have HEp5 := Lib.hid (HEp.out.below hb5)
  have HA5 := Lib.hid (HA4.out.below hb5)
  have HB5 := Lib.hid (bthen HB4.out hb5 HB4.out.size)
  have HT5 := Lib.hid (HT4.out.below hb5 HT4.out.lt)
  have HBt5 := Lib.hid (bthen HBt4.out hb5 (by simp; omega))
  have HG5 := Lib.hid hG5
  have hz5 : w4.heap.size < w5.heap.size := by have := hb5.size; simp at this; omega
  clear hb5 hG5 HG4 HT4 HBt4 HB4 HA4 HR4 HFB4 HPB HEp f40
  cases ok
  · go_wp2
    go_ret
    exact ⟨rfl, HB5.out⟩
  · obtain ⟨tr, hvt, hvl, hyl⟩ := HT2.out.1 rfl
    obtain ⟨sv, hsv, hr6, ht6, hks⟩ := hvl.tree
    obtain ⟨KA, kc, rfl, hk1, hk2, hKA⟩ := hks.slice
    injection hsv with hsv
    simp at hsv
    obtain ⟨e1, e2, e3, e4, e5⟩ := hsv
    subst e1; subst e2; subst e3; subst e4; subst e5
    have t0 : w5.cell? ⟨w2.heap.size, 0, none⟩ = some (.int .i64 tr.rule) := HT5.out.cell 0
    have t1 : w5.cell? ⟨w2.heap.size, 1, none⟩ = some (.int .i64 tr.term) := HT5.out.cell 1
    have t2 : w5.cell? ⟨w2.heap.size, 2, none⟩ = some (.slice TA tr.kids.length tc) := HT5.out.cell 2
    have HKA := Lib.hid ((hKA.keep (S' := fun b => b < w2.heap.size) (fun _ _ _ => rfl) (fun b hb => hb.2)).below HBt5.out)
    have HVt := Lib.hid hvt
    have HYl := Lib.hid hyl
    clear hvt hvl hyl hks hKA
    go_wp2_with fail
    have HLn : Hid ((yieldT tr).length ≤ 1000000) := Lib.hid (by have := HYl.out; omega)
    have HMi : Hid (I64 (m : Int)) := Lib.hid ⟨by omega, by omega⟩
    have hlim : (yieldT tr).length ≤ 1000000 := HLn.out
    have zG5 : w1.heap.size < w5.heap.size := HG5.out.lt
    have zT5 : w2.heap.size < w5.heap.size := HT5.out.lt
    have zG5' : w1.heap.size < w5.heap.size + 1 := by omega
    have zT5' : w2.heap.size < w5.heap.size + 1 := by omega
    clear h51 h53 f50 p50
    go_cut [12] (fun p wx => BoxW w5 tr m p wx)
    case first =>
      go_region_held3 (fun w' => w'.cell? ⟨w2.heap.size, 0, none⟩ = some (.int .i64 tr.rule) ∧ w'.cell? ⟨w2.heap.size, 1, none⟩ = some (.int .i64 tr.term) ∧ w'.cell? ⟨w2.heap.size, 2, none⟩ = some (.slice TA tr.kids.length tc) ∧ w'.cell? ⟨w1.heap.size, 0, none⟩ = some (.int .i64 (m : Int))) (go_keep)
      (first
       | (go_at_call 25
          refine (yield_any tr TA tc (fun b => b < w2.heap.size) w5.drew (by intro b hb; simp; omega) hr6 ht6 hk1 hk2 (HKA.out.below (Below.refl w5.heap.size w5).drew) HLn.out).mono ?_
          rintro e w6 ⟨v, rfl, hown, hb6⟩
          have H65 : Hid (Below w5.heap.size w5 w6) := Lib.hid (bthen (Below.refl w5.heap.size w5).drew hb6 (by first | omega | (simp; done) | (simp; omega)))
          have t60 := (H65.out.cell (p := ⟨w2.heap.size, 0, none⟩) zT5).trans t0
          have t61 := (H65.out.cell (p := ⟨w2.heap.size, 1, none⟩) zT5).trans t1
          have t62 := (H65.out.cell (p := ⟨w2.heap.size, 2, none⟩) zT5).trans t2
          have zT6 : w2.heap.size < w6.heap.size := by have := H65.out.size; omega
          have g60 : w6.cell? ⟨w1.heap.size, 0, none⟩ = some (.int .i64 (m : Int)) := (HG5.out.below H65.out HG5.out.lt).cell 0
          have zG6 : w1.heap.size < w6.heap.size := by have := H65.out.size; omega
          have zz6 : w5.heap.size + 0 ≤ w6.heap.size := by have := hb6.size; simp at this; omega
          obtain ⟨VA, vc, rfl, _, _, _⟩ := hown.form
          have HOO := Lib.hid (show Own w6 (fun _ => False) (w5.heap.size + 0) 3 (.slice VA (yieldT tr).length vc) (yieldT tr) from hown.base (by first | omega | (simp; done) | (simp; omega)))
          clear hown hb6)
       | (go_at_call 25
          refine (yield_any tr TA tc (fun b => b < w2.heap.size) (w5.drew.alloc (.cells #[.int .i64 (m : Int)] 3)) (by intro b hb; simp; omega) hr6 ht6 hk1 hk2 (HKA.out.below ((Below.refl w5.heap.size w5).drew.alloc (by first | exact Nat.le_refl _ | omega | (simp; done) | (simp; omega)) (.cells #[.int .i64 (m : Int)] 3))) HLn.out).mono ?_
          rintro e w6 ⟨v, rfl, hown, hb6⟩
          have H65 : Hid (Below w5.heap.size w5 w6) := Lib.hid (bthen ((Below.refl w5.heap.size w5).drew.alloc (by first | exact Nat.le_refl _ | omega | (simp; done) | (simp; omega)) (.cells #[.int .i64 (m : Int)] 3)) hb6 (by first | omega | (simp; done) | (simp; omega)))
          have t60 := (H65.out.cell (p := ⟨w2.heap.size, 0, none⟩) zT5).trans t0
          have t61 := (H65.out.cell (p := ⟨w2.heap.size, 1, none⟩) zT5).trans t1
          have t62 := (H65.out.cell (p := ⟨w2.heap.size, 2, none⟩) zT5).trans t2
          have zT6 : w2.heap.size < w6.heap.size := by have := H65.out.size; omega
          have g60 : w6.cell? ⟨w1.heap.size, 0, none⟩ = some (.int .i64 (m : Int)) := (HG5.out.below H65.out HG5.out.lt).cell 0
          have zG6 : w1.heap.size < w6.heap.size := by have := H65.out.size; omega
          have zz6 : w5.heap.size + 1 ≤ w6.heap.size := by have := hb6.size; simp at this; omega
          obtain ⟨VA, vc, rfl, _, _, _⟩ := hown.form
          have HOOL := Lib.hid (show Own w6 (fun _ => False) (w5.heap.size + 1) 3 (.slice VA (yieldT tr).length vc) (yieldT tr) from hown.base (by first | omega | (simp; done) | (simp; omega)))
          have HLL : Hid (Blk' w6 (w5.heap.size) 3 #[.int .i64 (m : Int)]) := Lib.hid ((Blk'.new' w5.drew 3 #[.int .i64 (m : Int)] (by first | rfl | (simp; done) | omega)).below hb6 (by first | omega | (simp; done) | (simp; omega)))
          clear hown hb6)
       | (go_at_call 25
          refine (yield_any tr TA tc (fun b => b < w2.heap.size) (w5.drew.alloc (.cells #[.slice none 0 0] 39)) (by intro b hb; simp; omega) hr6 ht6 hk1 hk2 (HKA.out.below ((Below.refl w5.heap.size w5).drew.alloc (by first | exact Nat.le_refl _ | omega | (simp; done) | (simp; omega)) (.cells #[.slice none 0 0] 39))) HLn.out).mono ?_
          rintro e w6 ⟨v, rfl, hown, hb6⟩
          have H65 : Hid (Below w5.heap.size w5 w6) := Lib.hid (bthen ((Below.refl w5.heap.size w5).drew.alloc (by first | exact Nat.le_refl _ | omega | (simp; done) | (simp; omega)) (.cells #[.slice none 0 0] 39)) hb6 (by first | omega | (simp; done) | (simp; omega)))
          have t60 := (H65.out.cell (p := ⟨w2.heap.size, 0, none⟩) zT5).trans t0
          have t61 := (H65.out.cell (p := ⟨w2.heap.size, 1, none⟩) zT5).trans t1
          have t62 := (H65.out.cell (p := ⟨w2.heap.size, 2, none⟩) zT5).trans t2
          have zT6 : w2.heap.size < w6.heap.size := by have := H65.out.size; omega
          have g60 : w6.cell? ⟨w1.heap.size, 0, none⟩ = some (.int .i64 (m : Int)) := (HG5.out.below H65.out HG5.out.lt).cell 0
          have zG6 : w1.heap.size < w6.heap.size := by have := H65.out.size; omega
          have zz6 : w5.heap.size + 1 ≤ w6.heap.size := by have := hb6.size; simp at this; omega
          obtain ⟨VA, vc, rfl, _, _, _⟩ := hown.form
          have HOOB := Lib.hid (show Own w6 (fun _ => False) (w5.heap.size + 1) 3 (.slice VA (yieldT tr).length vc) (yieldT tr) from hown.base (by first | omega | (simp; done) | (simp; omega)))
          have HBB : Hid (Blk' w6 (w5.heap.size) 39 #[.slice none 0 0]) := Lib.hid ((Blk'.new' w5.drew 39 #[.slice none 0 0] (by first | rfl | (simp; done) | omega)).below hb6 (by first | omega | (simp; done) | (simp; omega)))
          clear hown hb6)
       | (go_at_call 25
          refine (yield_any tr TA tc (fun b => b < w2.heap.size) ((w5.drew.alloc (.cells #[.int .i64 (m : Int)] 3)).alloc (.cells #[.slice none 0 0] 39)) (by intro b hb; simp; omega) hr6 ht6 hk1 hk2 (HKA.out.below (((Below.refl w5.heap.size w5).drew.alloc (by first | exact Nat.le_refl _ | omega | (simp; done) | (simp; omega)) (.cells #[.int .i64 (m : Int)] 3)).alloc (by first | exact Nat.le_refl _ | omega | (simp; done) | (simp; omega)) (.cells #[.slice none 0 0] 39))) HLn.out).mono ?_
          rintro e w6 ⟨v, rfl, hown, hb6⟩
          have H65 : Hid (Below w5.heap.size w5 w6) := Lib.hid (bthen (((Below.refl w5.heap.size w5).drew.alloc (by first | exact Nat.le_refl _ | omega | (simp; done) | (simp; omega)) (.cells #[.int .i64 (m : Int)] 3)).alloc (by first | exact Nat.le_refl _ | omega | (simp; done) | (simp; omega)) (.cells #[.slice none 0 0] 39)) hb6 (by first | omega | (simp; done) | (simp; omega)))
          have t60 := (H65.out.cell (p := ⟨w2.heap.size, 0, none⟩) zT5).trans t0
          have t61 := (H65.out.cell (p := ⟨w2.heap.size, 1, none⟩) zT5).trans t1
          have t62 := (H65.out.cell (p := ⟨w2.heap.size, 2, none⟩) zT5).trans t2
          have zT6 : w2.heap.size < w6.heap.size := by have := H65.out.size; omega
          have g60 : w6.cell? ⟨w1.heap.size, 0, none⟩ = some (.int .i64 (m : Int)) := (HG5.out.below H65.out HG5.out.lt).cell 0
          have zG6 : w1.heap.size < w6.heap.size := by have := H65.out.size; omega
          have zz6 : w5.heap.size + 2 ≤ w6.heap.size := by have := hb6.size; simp at this; omega
          obtain ⟨VA, vc, rfl, _, _, _⟩ := hown.form
          have HOOLB := Lib.hid (show Own w6 (fun _ => False) (w5.heap.size + 2) 3 (.slice VA (yieldT tr).length vc) (yieldT tr) from hown.base (by first | omega | (simp; done) | (simp; omega)))
          have HLLB : Hid (Blk' w6 (w5.heap.size) 3 #[.int .i64 (m : Int)]) := Lib.hid (((Blk'.new' w5.drew 3 #[.int .i64 (m : Int)] (by first | rfl | (simp; done) | omega)).alloc (.cells #[.slice none 0 0] 39)).below hb6 (by first | omega | (simp; done) | (simp; omega)))
          have HBLB : Hid (Blk' w6 (w5.heap.size + 1) 39 #[.slice none 0 0]) := Lib.hid ((Blk'.new' (w5.drew.alloc (.cells #[.int .i64 (m : Int)] 3)) 39 #[.slice none 0 0] (by first | rfl | (simp; done) | omega)).below hb6 (by first | omega | (simp; done) | (simp; omega)))
          clear hown hb6)
       | (go_at_call 25
          refine (yield_any tr TA tc (fun b => b < w2.heap.size) ((w5.drew.alloc (.cells #[.slice none 0 0] 39)).alloc (.cells #[.int .i64 (m : Int)] 3)) (by intro b hb; simp; omega) hr6 ht6 hk1 hk2 (HKA.out.below (((Below.refl w5.heap.size w5).drew.alloc (by first | exact Nat.le_refl _ | omega | (simp; done) | (simp; omega)) (.cells #[.slice none 0 0] 39)).alloc (by first | exact Nat.le_refl _ | omega | (simp; done) | (simp; omega)) (.cells #[.int .i64 (m : Int)] 3))) HLn.out).mono ?_
          rintro e w6 ⟨v, rfl, hown, hb6⟩
          have H65 : Hid (Below w5.heap.size w5 w6) := Lib.hid (bthen (((Below.refl w5.heap.size w5).drew.alloc (by first | exact Nat.le_refl _ | omega | (simp; done) | (simp; omega)) (.cells #[.slice none 0 0] 39)).alloc (by first | exact Nat.le_refl _ | omega | (simp; done) | (simp; omega)) (.cells #[.int .i64 (m : Int)] 3)) hb6 (by first | omega | (simp; done) | (simp; omega)))
          have t60 := (H65.out.cell (p := ⟨w2.heap.size, 0, none⟩) zT5).trans t0
          have t61 := (H65.out.cell (p := ⟨w2.heap.size, 1, none⟩) zT5).trans t1
          have t62 := (H65.out.cell (p := ⟨w2.heap.size, 2, none⟩) zT5).trans t2
          have zT6 : w2.heap.size < w6.heap.size := by have := H65.out.size; omega
          have g60 : w6.cell? ⟨w1.heap.size, 0, none⟩ = some (.int .i64 (m : Int)) := (HG5.out.below H65.out HG5.out.lt).cell 0
          have zG6 : w1.heap.size < w6.heap.size := by have := H65.out.size; omega
          have zz6 : w5.heap.size + 2 ≤ w6.heap.size := by have := hb6.size; simp at this; omega
          obtain ⟨VA, vc, rfl, _, _, _⟩ := hown.form
          have HOOBL := Lib.hid (show Own w6 (fun _ => False) (w5.heap.size + 2) 3 (.slice VA (yieldT tr).length vc) (yieldT tr) from hown.base (by first | omega | (simp; done) | (simp; omega)))
          have HBBL : Hid (Blk' w6 (w5.heap.size) 39 #[.slice none 0 0]) := Lib.hid (((Blk'.new' w5.drew 39 #[.slice none 0 0] (by first | rfl | (simp; done) | omega)).alloc (.cells #[.int .i64 (m : Int)] 3)).below hb6 (by first | omega | (simp; done) | (simp; omega)))
          have HLBL : Hid (Blk' w6 (w5.heap.size + 1) 3 #[.int .i64 (m : Int)]) := Lib.hid ((Blk'.new' (w5.drew.alloc (.cells #[.slice none 0 0] 39)) 3 #[.int .i64 (m : Int)] (by first | rfl | (simp; done) | omega)).below hb6 (by first | omega | (simp; done) | (simp; omega)))
          clear hown hb6)
       | (refine step_own1 _ (by rfl) _ _ elemInt (by rfl) (by rfl) (HOO.out.alloc (.cells #[.int .i64 (m : Int)] 3)) (m : Int) [.int .i64 (m : Int)] (by rfl) (blk_at1 (Blk'.new' w6 3 #[.int .i64 (m : Int)] (by first | rfl | (simp; done) | omega))) ⟨rfl, HMi.out⟩ (by have := HLn.out; omega) (by have := HLn.out; omega) (by first | omega | (simp; done) | (simp; omega)) ?_
          intro v' w9 hown9 hg9 hat9
          have hbl9 := (HOO.out.alloc (.cells #[.int .i64 (m : Int)] 3)).block
          obtain ⟨A9, k9, hv9, hk91, hk92, _⟩ := hown9.form
          rw [snoc_len] at hv9 hk91
          subst hv9
          have H9 : Hid (Below w5.heap.size w5 w9) := Lib.hid ((H65.out.alloc (by first | exact Nat.le_refl _ | omega | (simp; done) | (simp; omega)) (.cells #[.int .i64 (m : Int)] 3)).grown hg9 (by first | omega | (simp; done) | (simp; omega)) (fun k hk => by have := (hbl9 k hk).1; omega))
          have t90 := (H9.out.cell (p := ⟨w2.heap.size, 0, none⟩) zT5).trans t0
          have t91 := (H9.out.cell (p := ⟨w2.heap.size, 1, none⟩) zT5).trans t1
          have t92 := (H9.out.cell (p := ⟨w2.heap.size, 2, none⟩) zT5).trans t2
          have g90 := (H9.out.cell (p := ⟨w1.heap.size, 0, none⟩) zG5).trans h50
          have zT9 : w2.heap.size < w9.heap.size := by have := H9.out.size; omega
          have zG9 : w1.heap.size < w9.heap.size := by have := H9.out.size; omega
          have HE9 := Lib.hid (own_elsI hown9)
          have HK9 := Lib.hid (And.intro hk91 hk92)
          clear hown9 hg9 hat9 hbl9 hk91 hk92)
       | (refine step_own1 _ (by rfl) _ _ elemInt (by rfl) (by rfl) ((HOO.out.alloc (.cells #[.int .i64 (m : Int)] 3)).alloc (.cells #[.slice none 0 0] 39)) (m : Int) [.int .i64 (m : Int)] (by rfl) (blk_at1 ((Blk'.new' w6 3 #[.int .i64 (m : Int)] (by first | rfl | (simp; done) | omega)).alloc (.cells #[.slice none 0 0] 39))) ⟨rfl, HMi.out⟩ (by have := HLn.out; omega) (by have := HLn.out; omega) (by first | omega | (simp; done) | (simp; omega)) ?_
          intro v' w9 hown9 hg9 hat9
          have hbl9 := ((HOO.out.alloc (.cells #[.int .i64 (m : Int)] 3)).alloc (.cells #[.slice none 0 0] 39)).block
          obtain ⟨A9, k9, hv9, hk91, hk92, _⟩ := hown9.form
          rw [snoc_len] at hv9 hk91
          subst hv9
          have H9 : Hid (Below w5.heap.size w5 w9) := Lib.hid (((H65.out.alloc (by first | exact Nat.le_refl _ | omega | (simp; done) | (simp; omega)) (.cells #[.int .i64 (m : Int)] 3)).alloc (by first | exact Nat.le_refl _ | omega | (simp; done) | (simp; omega)) (.cells #[.slice none 0 0] 39)).grown hg9 (by first | omega | (simp; done) | (simp; omega)) (fun k hk => by have := (hbl9 k hk).1; omega))
          have t90 := (H9.out.cell (p := ⟨w2.heap.size, 0, none⟩) zT5).trans t0
          have t91 := (H9.out.cell (p := ⟨w2.heap.size, 1, none⟩) zT5).trans t1
          have t92 := (H9.out.cell (p := ⟨w2.heap.size, 2, none⟩) zT5).trans t2
          have g90 := (H9.out.cell (p := ⟨w1.heap.size, 0, none⟩) zG5).trans h50
          have zT9 : w2.heap.size < w9.heap.size := by have := H9.out.size; omega
          have zG9 : w1.heap.size < w9.heap.size := by have := H9.out.size; omega
          have HE9 := Lib.hid (own_elsI hown9)
          have HK9 := Lib.hid (And.intro hk91 hk92)
          have hX9 : Blk' w9 (w6.heap.size + 1) 39 #[.slice none 0 0] := (Blk'.new' (w6.alloc (.cells #[.int .i64 (m : Int)] 3)) 39 #[.slice none 0 0] (by first | rfl | (simp; done) | omega)).grown hg9 (fun e => by have e1 := hbl9 _ e.symm; have e2 := (HOO.out.block _ e.symm).2; omega)
          have nT9 : w2.heap.size ≠ w6.heap.size + 1 := by omega
          have nG9 : w1.heap.size ≠ w6.heap.size + 1 := by omega
          have nT9' : w6.heap.size + 1 ≠ w2.heap.size := by omega
          have nG9' : w6.heap.size + 1 ≠ w1.heap.size := by omega
          have c9 := hX9.cell 0
          have f9 := hX9.frozen 0
          have z9 := hX9.lt
          have HX9 := Lib.hid hX9
          have HN9 : Hid (∀ b, A9 = some ⟨b, 0, none⟩ → b ≠ w6.heap.size + 1) := Lib.hid (fun b hb e1 => by
            subst hb
            rcases hat9 with q | q
            · have e2 := hbl9 b q.symm
              have e3 := (HOO.out.block b q.symm).2
              omega
            · have e2 : some b = some _ := q
              injection e2 with e2
              first | omega | (simp at e2; omega))
          simp at c9
          clear hX9
          clear hown9 hg9 hat9 hbl9 hk91 hk92)
       | (refine step_own1 _ (by rfl) _ _ elemInt (by rfl) (by rfl) ((HOO.out.alloc (.cells #[.slice none 0 0] 39)).alloc (.cells #[.int .i64 (m : Int)] 3)) (m : Int) [.int .i64 (m : Int)] (by rfl) (blk_at1 (Blk'.new' (w6.alloc (.cells #[.slice none 0 0] 39)) 3 #[.int .i64 (m : Int)] (by first | rfl | (simp; done) | omega))) ⟨rfl, HMi.out⟩ (by have := HLn.out; omega) (by have := HLn.out; omega) (by first | omega | (simp; done) | (simp; omega)) ?_
          intro v' w9 hown9 hg9 hat9
          have hbl9 := ((HOO.out.alloc (.cells #[.slice none 0 0] 39)).alloc (.cells #[.int .i64 (m : Int)] 3)).block
          obtain ⟨A9, k9, hv9, hk91, hk92, _⟩ := hown9.form
          rw [snoc_len] at hv9 hk91
          subst hv9
          have H9 : Hid (Below w5.heap.size w5 w9) := Lib.hid (((H65.out.alloc (by first | exact Nat.le_refl _ | omega | (simp; done) | (simp; omega)) (.cells #[.slice none 0 0] 39)).alloc (by first | exact Nat.le_refl _ | omega | (simp; done) | (simp; omega)) (.cells #[.int .i64 (m : Int)] 3)).grown hg9 (by first | omega | (simp; done) | (simp; omega)) (fun k hk => by have := (hbl9 k hk).1; omega))
          have t90 := (H9.out.cell (p := ⟨w2.heap.size, 0, none⟩) zT5).trans t0
          have t91 := (H9.out.cell (p := ⟨w2.heap.size, 1, none⟩) zT5).trans t1
          have t92 := (H9.out.cell (p := ⟨w2.heap.size, 2, none⟩) zT5).trans t2
          have g90 := (H9.out.cell (p := ⟨w1.heap.size, 0, none⟩) zG5).trans h50
          have zT9 : w2.heap.size < w9.heap.size := by have := H9.out.size; omega
          have zG9 : w1.heap.size < w9.heap.size := by have := H9.out.size; omega
          have HE9 := Lib.hid (own_elsI hown9)
          have HK9 := Lib.hid (And.intro hk91 hk92)
          have hX9 : Blk' w9 (w6.heap.size) 39 #[.slice none 0 0] := ((Blk'.new' w6 39 #[.slice none 0 0] (by first | rfl | (simp; done) | omega)).alloc (.cells #[.int .i64 (m : Int)] 3)).grown hg9 (fun e => by have e1 := hbl9 _ e.symm; have e2 := (HOO.out.block _ e.symm).2; omega)
          have nT9 : w2.heap.size ≠ w6.heap.size := by omega
          have nG9 : w1.heap.size ≠ w6.heap.size := by omega
          have nT9' : w6.heap.size ≠ w2.heap.size := by omega
          have nG9' : w6.heap.size ≠ w1.heap.size := by omega
          have c9 := hX9.cell 0
          have f9 := hX9.frozen 0
          have z9 := hX9.lt
          have HX9 := Lib.hid hX9
          have HN9 : Hid (∀ b, A9 = some ⟨b, 0, none⟩ → b ≠ w6.heap.size) := Lib.hid (fun b hb e1 => by
            subst hb
            rcases hat9 with q | q
            · have e2 := hbl9 b q.symm
              have e3 := (HOO.out.block b q.symm).2
              omega
            · have e2 : some b = some _ := q
              injection e2 with e2
              first | omega | (simp at e2; omega))
          simp at c9
          clear hX9
          clear hown9 hg9 hat9 hbl9 hk91 hk92)
       | (refine step_own1 _ (by rfl) _ _ elemInt (by rfl) (by rfl) HOOL.out (m : Int) [.int .i64 (m : Int)] (by rfl) (blk_at1 HLL.out) ⟨rfl, HMi.out⟩ (by have := HLn.out; omega) (by have := HLn.out; omega) (by first | omega | (simp; done) | (simp; omega)) ?_
          intro v' w9 hown9 hg9 hat9
          have hbl9 := HOOL.out.block
          obtain ⟨A9, k9, hv9, hk91, hk92, _⟩ := hown9.form
          rw [snoc_len] at hv9 hk91
          subst hv9
          have H9 : Hid (Below w5.heap.size w5 w9) := Lib.hid (H65.out.grown hg9 (by first | omega | (simp; done) | (simp; omega)) (fun k hk => by have := (hbl9 k hk).1; omega))
          have t90 := (H9.out.cell (p := ⟨w2.heap.size, 0, none⟩) zT5).trans t0
          have t91 := (H9.out.cell (p := ⟨w2.heap.size, 1, none⟩) zT5).trans t1
          have t92 := (H9.out.cell (p := ⟨w2.heap.size, 2, none⟩) zT5).trans t2
          have g90 := (H9.out.cell (p := ⟨w1.heap.size, 0, none⟩) zG5).trans h50
          have zT9 : w2.heap.size < w9.heap.size := by have := H9.out.size; omega
          have zG9 : w1.heap.size < w9.heap.size := by have := H9.out.size; omega
          have HE9 := Lib.hid (own_elsI hown9)
          have HK9 := Lib.hid (And.intro hk91 hk92)
          clear hown9 hg9 hat9 hbl9 hk91 hk92)
       | (refine step_own1 _ (by rfl) _ _ elemInt (by rfl) (by rfl) (HOOL.out.alloc (.cells #[.slice none 0 0] 39)) (m : Int) [.int .i64 (m : Int)] (by rfl) (blk_at1 (HLL.out.alloc (.cells #[.slice none 0 0] 39))) ⟨rfl, HMi.out⟩ (by have := HLn.out; omega) (by have := HLn.out; omega) (by first | omega | (simp; done) | (simp; omega)) ?_
          intro v' w9 hown9 hg9 hat9
          have hbl9 := (HOOL.out.alloc (.cells #[.slice none 0 0] 39)).block
          obtain ⟨A9, k9, hv9, hk91, hk92, _⟩ := hown9.form
          rw [snoc_len] at hv9 hk91
          subst hv9
          have H9 : Hid (Below w5.heap.size w5 w9) := Lib.hid ((H65.out.alloc (by first | exact Nat.le_refl _ | omega | (simp; done) | (simp; omega)) (.cells #[.slice none 0 0] 39)).grown hg9 (by first | omega | (simp; done) | (simp; omega)) (fun k hk => by have := (hbl9 k hk).1; omega))
          have t90 := (H9.out.cell (p := ⟨w2.heap.size, 0, none⟩) zT5).trans t0
          have t91 := (H9.out.cell (p := ⟨w2.heap.size, 1, none⟩) zT5).trans t1
          have t92 := (H9.out.cell (p := ⟨w2.heap.size, 2, none⟩) zT5).trans t2
          have g90 := (H9.out.cell (p := ⟨w1.heap.size, 0, none⟩) zG5).trans h50
          have zT9 : w2.heap.size < w9.heap.size := by have := H9.out.size; omega
          have zG9 : w1.heap.size < w9.heap.size := by have := H9.out.size; omega
          have HE9 := Lib.hid (own_elsI hown9)
          have HK9 := Lib.hid (And.intro hk91 hk92)
          have hX9 : Blk' w9 (w6.heap.size) 39 #[.slice none 0 0] := (Blk'.new' w6 39 #[.slice none 0 0] (by first | rfl | (simp; done) | omega)).grown hg9 (fun e => by have e1 := hbl9 _ e.symm; have e2 := (HOOL.out.block _ e.symm).2; omega)
          have nT9 : w2.heap.size ≠ w6.heap.size := by omega
          have nG9 : w1.heap.size ≠ w6.heap.size := by omega
          have nT9' : w6.heap.size ≠ w2.heap.size := by omega
          have nG9' : w6.heap.size ≠ w1.heap.size := by omega
          have c9 := hX9.cell 0
          have f9 := hX9.frozen 0
          have z9 := hX9.lt
          have HX9 := Lib.hid hX9
          have HN9 : Hid (∀ b, A9 = some ⟨b, 0, none⟩ → b ≠ w6.heap.size) := Lib.hid (fun b hb e1 => by
            subst hb
            rcases hat9 with q | q
            · have e2 := hbl9 b q.symm
              have e3 := (HOOL.out.block b q.symm).2
              omega
            · have e2 : some b = some _ := q
              injection e2 with e2
              first | omega | (simp at e2; omega))
          simp at c9
          clear hX9
          clear hown9 hg9 hat9 hbl9 hk91 hk92)
       | (refine step_own1 _ (by rfl) _ _ elemInt (by rfl) (by rfl) (HOOB.out.alloc (.cells #[.int .i64 (m : Int)] 3)) (m : Int) [.int .i64 (m : Int)] (by rfl) (blk_at1 (Blk'.new' w6 3 #[.int .i64 (m : Int)] (by first | rfl | (simp; done) | omega))) ⟨rfl, HMi.out⟩ (by have := HLn.out; omega) (by have := HLn.out; omega) (by first | omega | (simp; done) | (simp; omega)) ?_
          intro v' w9 hown9 hg9 hat9
          have hbl9 := (HOOB.out.alloc (.cells #[.int .i64 (m : Int)] 3)).block
          obtain ⟨A9, k9, hv9, hk91, hk92, _⟩ := hown9.form
          rw [snoc_len] at hv9 hk91
          subst hv9
          have H9 : Hid (Below w5.heap.size w5 w9) := Lib.hid ((H65.out.alloc (by first | exact Nat.le_refl _ | omega | (simp; done) | (simp; omega)) (.cells #[.int .i64 (m : Int)] 3)).grown hg9 (by first | omega | (simp; done) | (simp; omega)) (fun k hk => by have := (hbl9 k hk).1; omega))
          have t90 := (H9.out.cell (p := ⟨w2.heap.size, 0, none⟩) zT5).trans t0
          have t91 := (H9.out.cell (p := ⟨w2.heap.size, 1, none⟩) zT5).trans t1
          have t92 := (H9.out.cell (p := ⟨w2.heap.size, 2, none⟩) zT5).trans t2
          have g90 := (H9.out.cell (p := ⟨w1.heap.size, 0, none⟩) zG5).trans h50
          have zT9 : w2.heap.size < w9.heap.size := by have := H9.out.size; omega
          have zG9 : w1.heap.size < w9.heap.size := by have := H9.out.size; omega
          have HE9 := Lib.hid (own_elsI hown9)
          have HK9 := Lib.hid (And.intro hk91 hk92)
          have hX9 : Blk' w9 (w5.heap.size) 39 #[.slice none 0 0] := (HBB.out.alloc (.cells #[.int .i64 (m : Int)] 3)).grown hg9 (fun e => by have e1 := hbl9 _ e.symm; skip; omega)
          have nT9 : w2.heap.size ≠ w5.heap.size := by omega
          have nG9 : w1.heap.size ≠ w5.heap.size := by omega
          have nT9' : w5.heap.size ≠ w2.heap.size := by omega
          have nG9' : w5.heap.size ≠ w1.heap.size := by omega
          have c9 := hX9.cell 0
          have f9 := hX9.frozen 0
          have z9 := hX9.lt
          have HX9 := Lib.hid hX9
          have HN9 : Hid (∀ b, A9 = some ⟨b, 0, none⟩ → b ≠ w5.heap.size) := Lib.hid (fun b hb e1 => by
            subst hb
            rcases hat9 with q | q
            · have e2 := hbl9 b q.symm
              skip
              omega
            · have e2 : some b = some _ := q
              injection e2 with e2
              first | omega | (simp at e2; omega))
          simp at c9
          clear hX9
          clear hown9 hg9 hat9 hbl9 hk91 hk92)
       | (refine step_own1 _ (by rfl) _ _ elemInt (by rfl) (by rfl) HOOLB.out (m : Int) [.int .i64 (m : Int)] (by rfl) (blk_at1 HLLB.out) ⟨rfl, HMi.out⟩ (by have := HLn.out; omega) (by have := HLn.out; omega) (by first | omega | (simp; done) | (simp; omega)) ?_
          intro v' w9 hown9 hg9 hat9
          have hbl9 := HOOLB.out.block
          obtain ⟨A9, k9, hv9, hk91, hk92, _⟩ := hown9.form
          rw [snoc_len] at hv9 hk91
          subst hv9
          have H9 : Hid (Below w5.heap.size w5 w9) := Lib.hid (H65.out.grown hg9 (by first | omega | (simp; done) | (simp; omega)) (fun k hk => by have := (hbl9 k hk).1; omega))
          have t90 := (H9.out.cell (p := ⟨w2.heap.size, 0, none⟩) zT5).trans t0
          have t91 := (H9.out.cell (p := ⟨w2.heap.size, 1, none⟩) zT5).trans t1
          have t92 := (H9.out.cell (p := ⟨w2.heap.size, 2, none⟩) zT5).trans t2
          have g90 := (H9.out.cell (p := ⟨w1.heap.size, 0, none⟩) zG5).trans h50
          have zT9 : w2.heap.size < w9.heap.size := by have := H9.out.size; omega
          have zG9 : w1.heap.size < w9.heap.size := by have := H9.out.size; omega
          have HE9 := Lib.hid (own_elsI hown9)
          have HK9 := Lib.hid (And.intro hk91 hk92)
          have hX9 : Blk' w9 (w5.heap.size + 1) 39 #[.slice none 0 0] := HBLB.out.grown hg9 (fun e => by have e1 := hbl9 _ e.symm; skip; omega)
          have nT9 : w2.heap.size ≠ w5.heap.size + 1 := by omega
          have nG9 : w1.heap.size ≠ w5.heap.size + 1 := by omega
          have nT9' : w5.heap.size + 1 ≠ w2.heap.size := by omega
          have nG9' : w5.heap.size + 1 ≠ w1.heap.size := by omega
          have c9 := hX9.cell 0
          have f9 := hX9.frozen 0
          have z9 := hX9.lt
          have HX9 := Lib.hid hX9
          have HN9 : Hid (∀ b, A9 = some ⟨b, 0, none⟩ → b ≠ w5.heap.size + 1) := Lib.hid (fun b hb e1 => by
            subst hb
            rcases hat9 with q | q
            · have e2 := hbl9 b q.symm
              skip
              omega
            · have e2 : some b = some _ := q
              injection e2 with e2
              first | omega | (simp at e2; omega))
          simp at c9
          clear hX9
          clear hown9 hg9 hat9 hbl9 hk91 hk92)
       | (refine step_own1 _ (by rfl) _ _ elemInt (by rfl) (by rfl) HOOBL.out (m : Int) [.int .i64 (m : Int)] (by rfl) (blk_at1 HLBL.out) ⟨rfl, HMi.out⟩ (by have := HLn.out; omega) (by have := HLn.out; omega) (by first | omega | (simp; done) | (simp; omega)) ?_
          intro v' w9 hown9 hg9 hat9
          have hbl9 := HOOBL.out.block
          obtain ⟨A9, k9, hv9, hk91, hk92, _⟩ := hown9.form
          rw [snoc_len] at hv9 hk91
          subst hv9
          have H9 : Hid (Below w5.heap.size w5 w9) := Lib.hid (H65.out.grown hg9 (by first | omega | (simp; done) | (simp; omega)) (fun k hk => by have := (hbl9 k hk).1; omega))
          have t90 := (H9.out.cell (p := ⟨w2.heap.size, 0, none⟩) zT5).trans t0
          have t91 := (H9.out.cell (p := ⟨w2.heap.size, 1, none⟩) zT5).trans t1
          have t92 := (H9.out.cell (p := ⟨w2.heap.size, 2, none⟩) zT5).trans t2
          have g90 := (H9.out.cell (p := ⟨w1.heap.size, 0, none⟩) zG5).trans h50
          have zT9 : w2.heap.size < w9.heap.size := by have := H9.out.size; omega
          have zG9 : w1.heap.size < w9.heap.size := by have := H9.out.size; omega
          have HE9 := Lib.hid (own_elsI hown9)
          have HK9 := Lib.hid (And.intro hk91 hk92)
          have hX9 : Blk' w9 (w5.heap.size) 39 #[.slice none 0 0] := HBBL.out.grown hg9 (fun e => by have e1 := hbl9 _ e.symm; skip; omega)
          have nT9 : w2.heap.size ≠ w5.heap.size := by omega
          have nG9 : w1.heap.size ≠ w5.heap.size := by omega
          have nT9' : w5.heap.size ≠ w2.heap.size := by omega
          have nG9' : w5.heap.size ≠ w1.heap.size := by omega
          have c9 := hX9.cell 0
          have f9 := hX9.frozen 0
          have z9 := hX9.lt
          have HX9 := Lib.hid hX9
          have HN9 : Hid (∀ b, A9 = some ⟨b, 0, none⟩ → b ≠ w5.heap.size) := Lib.hid (fun b hb e1 => by
            subst hb
            rcases hat9 with q | q
            · have e2 := hbl9 b q.symm
              skip
              omega
            · have e2 : some b = some _ := q
              injection e2 with e2
              first | omega | (simp at e2; omega))
          simp at c9
          clear hX9
          clear hown9 hg9 hat9 hbl9 hk91 hk92))
      all_goals
        go_wp2_with fail
        go_meet
        first
          | exact boxW_new H9.out HE9.out
          | exact boxW_set H9.out HE9.out HX9.out (by omega) HN9.out
    case rest =>
      obtain ⟨WB, Aw, cw, rfl, hWB, hEw, hb9⟩ := hcut
      have T0 := (hb9.cell (p := ⟨w2.heap.size, 0, none⟩) zT5).trans t0
      have T1 := (hb9.cell (p := ⟨w2.heap.size, 1, none⟩) zT5).trans t1
      have T2 := (hb9.cell (p := ⟨w2.heap.size, 2, none⟩) zT5).trans t2
      have zTc : w2.heap.size < wc.heap.size := by have := hb9.size; omega
      have hb10 : Below w5.heap.size w5 (wc.alloc (.cells #[.func (.func 26) #[] #[.pointer (some ⟨w3.heap.size, 0, none⟩), .pointer (some ⟨w1.heap.size, 0, none⟩), .pointer (some ⟨w4.heap.size, 0, none⟩), .pointer (some ⟨WB, 0, none⟩), .pointer (some ⟨wc.heap.size, 0, none⟩)]] 55)) := hb9.alloc hb9.size _
      have HB10 := Lib.hid hb10
      have HFF : Hid (FFS w3.heap.size w1.heap.size w4.heap.size WB wc.heap.size m n ⟨(m : Int), (n : Int), (s1 : Int), rs⟩ A c (fun b => b < w1.heap.size) bf bs cf fol (fun b => w3.heap.size < b ∧ b < w4.heap.size) (rs.map (predRow m fe2 ff2 fol2)) Ap cp (fun b => Aw = some ⟨b, 0, none⟩) (yieldT tr ++ [(m : Int)]) Aw cw (wc.alloc (.cells #[.func (.func 26) #[] #[.pointer (some ⟨w3.heap.size, 0, none⟩), .pointer (some ⟨w1.heap.size, 0, none⟩), .pointer (some ⟨w4.heap.size, 0, none⟩), .pointer (some ⟨WB, 0, none⟩), .pointer (some ⟨wc.heap.size, 0, none⟩)]] 55))) := Lib.hid
        ⟨HFB5.out.below hb10 HFB5.out.lt, HG5.out.below hb10 HG5.out.lt, HPB5.out.below hb10 HPB5.out.lt, by rw [snoc_len]; exact hWB.alloc _, Blk'.new _ _ _, HA5.out.below hb10, HR5.out.below hb10, (HEp5.out.below hb10).keep (fun _ _ _ => rfl) (fun b hb => ⟨by have := hb.1; simp at this; omega, hb.2⟩), hEw.below ((Below.refl _ _).alloc (Nat.le_refl _) _)⟩
      have HGd : Hid (goodP ⟨(m : Int), (n : Int), (s1 : Int), rs⟩ m fol (rs.map (predRow m fe2 ff2 fol2)) (yieldT tr ++ [(m : Int)]) tr 0) := Lib.hid
        (good2_law (HF3.out.1.closed rfl HV.out) (HF4.out.1.closed rfl HV.out) (HV.out.symIn rfl) (fun q hq => ⟨(HV.out.rules q hq).1, (HV.out.rules q hq).2.1⟩) HF3.out.2.2.1 HF4.out.2.2 (fun i q h => by have h' : rs[i]? = some q := h; simp [h']) tr ⟨false, (s1 : Int)⟩ 0 (m : Int) [] HVt.out
          (fun _ => ⟨⟨HF3.out.2.2.1.startIn, by simpa using HF3.out.2.2.1.start⟩, ⟨HF4.out.2.2.startIn, by simpa using HF4.out.2.2.start⟩⟩) (by simp) (by omega))
      have HKc := Lib.hid (HKA.out.below hb10)
      have HBc := Lib.hid (bthen HB5.out hb10 HB5.out.size)
      have HSt : Hid (∀ b, b < w2.heap.size → b < (wc.alloc (.cells #[.func (.func 26) #[] #[.pointer (some ⟨w3.heap.size, 0, none⟩), .pointer (some ⟨w1.heap.size, 0, none⟩), .pointer (some ⟨w4.heap.size, 0, none⟩), .pointer (some ⟨WB, 0, none⟩), .pointer (some ⟨wc.heap.size, 0, none⟩)]] 55)).heap.size) := Lib.hid (fun b hb => by simp; omega)
      clear hWB hEw hb9 hb10 t0 t1 t2 h50
      go_wp2_with fail
      refine (good1_any w3.heap.size w1.heap.size w4.heap.size WB _ m n ⟨(m : Int), (n : Int), (s1 : Int), rs⟩ A c _ bf bs cf fol _ (rs.map (predRow m fe2 ff2 fol2)) Ap cp _ (yieldT tr ++ [(m : Int)]) Aw cw (fun b => b < w2.heap.size) (fun q hq => ⟨(HV.out.rules q hq).1, (HV.out.rules q hq).2.1⟩) HV.out.len (by rw [List.length_map]; exact HV.out.len) hmm (by rw [snoc_len]; have := HLn.out; omega) tr TA tc 0 _ hr6 ht6 hk1 hk2 HKc.out HSt.out HFF.out HGd.out (by have := HLn.out; omega)).mono ?_
      rintro e w' ⟨rfl, hb'⟩
      have HBe := Lib.hid (bthen HBc.out hb' HBc.out.size)
      clear hb'
      go_wp2
      go_ret
      exact ⟨rfl, HBe.out⟩

theorem firstFollows_row (raw ch : List Int) (v0 v1 : Value) (W : World) (h0 : Vl W (OldS W) raw v0) (h1 : Vl W (OldS W) ch v1) :
    Calls Try.prog 4 #[v0, v1] W fun e W' => e = .returned (.bool true) ∧ Below W.heap.size W W' := by
  obtain ⟨A, c, rfl, k1, k2, hA⟩ := h0.slice
  obtain ⟨B, d, rfl, k3, k4, hB⟩ := h1.slice
  exact firstFollows_any A c raw B d ch (OldS W) W k1 k2 hA k3 k4 hB (fun b h => h)
end Go.Proofs.Ytlbhaegdcpacpaa
