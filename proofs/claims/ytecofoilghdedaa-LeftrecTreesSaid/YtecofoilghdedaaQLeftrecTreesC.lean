/- The walk of the law LeftrecTrees: There and Back are inverse to each other and keep the word. -/
import Derived.Test.YtecofoilghdedaaQChainStr
import Derived.Test.YtecofoilghdedaaQGrammar
import Derived.Test.YtecofoilghdedaaQp1
import Derived.Test.YtecofoilghdedaaQApartP
import Derived.Test.YtecofoilghdedaaQLrPub
import Derived.Test.YtecofoilghdedaaQLrLaw
import Derived.Test.YtecofoilghdedaaQp2
import Derived.Test.YtecofoilghdedaaQMakeTreeTop
import Derived.Test.YtecofoilghdedaaQSameTreeK
import Derived.Test.YtecofoilghdedaaQw1
namespace Go.Proofs.Ytecofoilghdedaa
open Go.RowKit
set_option linter.unusedVariables false

set_option maxRecDepth 100000 in
set_option maxHeartbeats 8000000 in
theorem leftrecTrees_any (raw ch : List Int) (A0 B0 : Option Addr) (c0 d0 : Nat) (S0 S1 : Nat → Prop) (w : World) (h1 : raw.length ≤ c0) (h2 : c0 ≤ 9223372036854775807) (hA0 : Els w S0 raw A0) (hS0 : ∀ b, S0 b → b < w.heap.size) (h3 : ch.length ≤ d0) (h4 : d0 ≤ 9223372036854775807) (hB0 : Els w S1 ch B0) (hS1 : ∀ b, S1 b → b < w.heap.size) :
    Calls Try.prog 4 #[.slice A0 raw.length c0, .slice B0 ch.length d0] w fun e w' => e = .returned (.bool true) ∧ Below w.heap.size w w' := by
  have HC := Lib.hid hB0
  have HS1 := Lib.hid hS1
  have HD := Lib.hid (And.intro h3 h4)
  clear hB0 hS1 h3 h4
  go_enter Try.func4, Try.ntmps4
  go_wp2_with fail
  refine (grammar_any A0 c0 raw S0 _ h1 h2 hA0 hS0).mono ?_
  rintro e w1 ⟨g, v, hmade, rfl, hvl, hb1⟩
  obtain ⟨s, rfl, _, _, _, hs⟩ := hvl.gram
  obtain ⟨A, c, rfl, hlc, hc, hA⟩ := hs.slice
  have hck := made_check hmade
  have hvg := validG_of hck
  obtain ⟨t, nn, s0, rs⟩ := g
  dsimp only at *
  obtain ⟨n, hn⟩ : ∃ n : Nat, nn = (n : Int) := ⟨nn.toNat, by have := hvg.n1; dsimp only at this; omega⟩
  obtain ⟨m, hm⟩ : ∃ m : Nat, t = (m : Int) := ⟨t.toNat, by have := hvg.t1; dsimp only at this; omega⟩
  subst hn; subst hm
  have HCk := Lib.hid hck
  have HV := Lib.hid hvg
  have HL := Lib.hid (And.intro hlc hc)
  have HBw1 := Lib.hid hb1
  have EAw1 := Lib.hid hA
  have ECw1 := Lib.hid (HC.out.below hb1)
  have zww1 : w.heap.size ≤ w1.heap.size := hb1.size
  clear hvl hs hA hb1 hmade hA0 hS0 hck hvg h1 h2 HC
  obtain ⟨w2, hww2⟩ : ∃ wq : World, wq = w1.alloc (.cells #[.int .i64 (m : Int), .int .i64 (n : Int), .int .i64 s0, .slice A rs.length c] 25) := ⟨_, rfl⟩
  have HWw2 := Lib.hid hww2
  have hbw2 : Below w1.heap.size w1 w2 := by rw [hww2]; exact (Below.refl _ _).alloc (Nat.le_refl _) _
  have HGw2 : Hid (Blk' w2 w1.heap.size 25 #[.int .i64 (m : Int), .int .i64 (n : Int), .int .i64 s0, .slice A rs.length c]) := Lib.hid (by rw [hww2]; exact Blk'.new _ _ _)
  have HBw2 := Lib.hid (bthen HBw1.out hbw2 HBw1.out.size)
  have zw1w2 : w1.heap.size ≤ w2.heap.size := hbw2.size
  have EAw2 := Lib.hid (EAw1.out.below hbw2)
  have ECw2 := Lib.hid (ECw1.out.below hbw2)
  clear hww2 hbw2
  have aG0 : w2.cell? ⟨w1.heap.size, 0, none⟩ = some (.int .i64 (m : Int)) := HGw2.out.cell 0
  have aG1 : w2.cell? ⟨w1.heap.size, 1, none⟩ = some (.int .i64 (n : Int)) := HGw2.out.cell 1
  have aG2 : w2.cell? ⟨w1.heap.size, 2, none⟩ = some (.int .i64 s0) := HGw2.out.cell 2
  have aG3 : w2.cell? ⟨w1.heap.size, 3, none⟩ = some (.slice A rs.length c) := HGw2.out.cell 3
  have azG : w1.heap.size < w2.heap.size := HGw2.out.lt
  go_wp2_with fail
  rw [← HWw2.out]
  refine (leftPub_any ⟨(m : Int), (n : Int), s0, rs⟩ m n A c _ w2 rfl rfl HCk.out HL.out.1 HL.out.2 EAw2.out (fun b hb => by have := hb.2; omega)).mono ?_
  rintro e w3 (⟨k, hbad, rfl, hb3⟩ | ⟨hok, A1, A2, c1, c2, rfl, q11, q12, hE1, q21, q22, hE2, hb3⟩)
  · have hk : (k != 0) = true := by simp [hbad.ne]
    have HBw3 := Lib.hid (bthen HBw2.out hb3 HBw2.out.size)
    have zw2w3 : w2.heap.size ≤ w3.heap.size := hb3.size
    have HGw3 := Lib.hid (HGw2.out.below hb3 HGw2.out.lt)
    have EAw3 := Lib.hid (EAw2.out.below hb3)
    have ECw3 := Lib.hid (ECw2.out.below hb3)
    clear hb3 aG0 aG1 aG2 aG3 azG
    obtain ⟨w4, hww4⟩ : ∃ wq : World, wq = w3.alloc (.cells #[.int .i64 0, .int .i64 0, .int .i64 0, .slice none 0 0, .slice none 0 0] 42) := ⟨_, rfl⟩
    have HWw4 := Lib.hid hww4
    have hbw4 : Below w3.heap.size w3 w4 := by rw [hww4]; exact (Below.refl _ _).alloc (Nat.le_refl _) _
    have HPw4 : Hid (Blk' w4 w3.heap.size 42 #[.int .i64 0, .int .i64 0, .int .i64 0, .slice none 0 0, .slice none 0 0]) := Lib.hid (by rw [hww4]; exact Blk'.new _ _ _)
    have HBw4 := Lib.hid (bthen HBw3.out hbw4 HBw3.out.size)
    have zw3w4 : w3.heap.size ≤ w4.heap.size := hbw4.size
    have HGw4 := Lib.hid (HGw3.out.below hbw4 HGw3.out.lt)
    have EAw4 := Lib.hid (EAw3.out.below hbw4)
    have ECw4 := Lib.hid (ECw3.out.below hbw4)
    clear hww4 hbw4
    go_upto_region 3 with (fail)
    rw [← HWw4.out]
    go_wp2_with fail
    refine (straightens_ok w4).mono ?_
    rintro e w5 ⟨rfl, hb5⟩
    have HB5 := Lib.hid (bthen HBw4.out hb5 HBw4.out.size)
    clear hb5
    go_wp2
    go_ret
    exact ⟨rfl, HB5.out⟩
  · obtain ⟨sg, hsg⟩ : ∃ sg : Gram, sg = strG ⟨(m : Int), (n : Int), s0, rs⟩ n := ⟨_, rfl⟩
    obtain ⟨fl, hfl⟩ : ∃ fl : Nat, fl = (fromL ⟨(m : Int), (n : Int), s0, rs⟩ n).length := ⟨_, rfl⟩
    rw [← hsg] at q11 hE1
    rw [← hfl]
    rw [← hsg]
    have HOk := Lib.hid hok
    have HSg := Lib.hid hsg
    have HVs : Hid (ValidG sg) := Lib.hid (by obtain ⟨_, _, hchk, _⟩ := HOk.out; rw [hsg]; exact validG_of hchk)
    have HQ := Lib.hid (And.intro q11 q12)
    have HBw3 := Lib.hid (bthen HBw2.out hb3 HBw2.out.size)
    have zw2w3 : w2.heap.size ≤ w3.heap.size := hb3.size
    have HGw3 := Lib.hid (HGw2.out.below hb3 HGw2.out.lt)
    have EAw3 := Lib.hid (EAw2.out.below hb3)
    have ECw3 := Lib.hid (ECw2.out.below hb3)
    have EOw3 := Lib.hid hE1
    clear hok hsg hfl q11 q12 q21 q22 hE1 hE2 hb3 aG0 aG1 aG2 aG3 azG
    obtain ⟨w4, hww4⟩ : ∃ wq : World, wq = w3.alloc (.cells #[.int .i64 sg.terms, .int .i64 sg.nons, .int .i64 sg.start, .slice A1 sg.rules.length c1, .slice A2 fl c2] 42) := ⟨_, rfl⟩
    have HWw4 := Lib.hid hww4
    have hbw4 : Below w3.heap.size w3 w4 := by rw [hww4]; exact (Below.refl _ _).alloc (Nat.le_refl _) _
    have HPw4 : Hid (Blk' w4 w3.heap.size 42 #[.int .i64 sg.terms, .int .i64 sg.nons, .int .i64 sg.start, .slice A1 sg.rules.length c1, .slice A2 fl c2]) := Lib.hid (by rw [hww4]; exact Blk'.new _ _ _)
    have HBw4 := Lib.hid (bthen HBw3.out hbw4 HBw3.out.size)
    have zw3w4 : w3.heap.size ≤ w4.heap.size := hbw4.size
    have HGw4 := Lib.hid (HGw3.out.below hbw4 HGw3.out.lt)
    have EAw4 := Lib.hid (EAw3.out.below hbw4)
    have ECw4 := Lib.hid (ECw3.out.below hbw4)
    have EOw4 := Lib.hid (EOw3.out.below hbw4)
    clear hww4 hbw4
    go_upto_region 3 with (fail)
    rw [← HWw4.out]
    go_wp2_with fail
    refine (straightens_ok w4).mono ?_
    rintro e w5 ⟨rfl, hb5⟩
    have HBw5 := Lib.hid (bthen HBw4.out hb5 HBw4.out.size)
    have zw4w5 : w4.heap.size ≤ w5.heap.size := hb5.size
    have HGw5 := Lib.hid (HGw4.out.below hb5 HGw4.out.lt)
    have HPw5 := Lib.hid (HPw4.out.below hb5 HPw4.out.lt)
    have EAw5 := Lib.hid (EAw4.out.below hb5)
    have ECw5 := Lib.hid (ECw4.out.below hb5)
    have EOw5 := Lib.hid (EOw4.out.below hb5)
    clear hb5
    have bG0 : w5.cell? ⟨w1.heap.size, 0, none⟩ = some (.int .i64 (m : Int)) := HGw5.out.cell 0
    have bG1 : w5.cell? ⟨w1.heap.size, 1, none⟩ = some (.int .i64 (n : Int)) := HGw5.out.cell 1
    have bG2 : w5.cell? ⟨w1.heap.size, 2, none⟩ = some (.int .i64 s0) := HGw5.out.cell 2
    have bG3 : w5.cell? ⟨w1.heap.size, 3, none⟩ = some (.slice A rs.length c) := HGw5.out.cell 3
    have bzG : w1.heap.size < w5.heap.size := HGw5.out.lt
    go_wp2_with fail
    refine (makeTree_any ⟨(m : Int), (n : Int), s0, rs⟩ A c ch B0 d0 _ S1 w5 HV.out.i64 HL.out.1 HL.out.2 (by have := HV.out.len; (try dsimp only at this ⊢); omega) (fun q hq => by have := (HV.out.rules q hq).2.2.1; omega) EAw5.out (fun b hb => by have := hb.1; have := hb.2; omega) HD.out.1 HD.out.2 ECw5.out (fun b hb => by have := HS1.out b hb; omega)).mono ?_
    rintro e w6 ⟨v, ok, rfl, hbw6, ⟨ta, tb, TA, tn, tc, rfl⟩, hok⟩
    have HBw6 := Lib.hid (bthen HBw5.out hbw6 HBw5.out.size)
    have zw5w6 : w5.heap.size ≤ w6.heap.size := hbw6.size
    have HGw6 := Lib.hid (HGw5.out.below hbw6 HGw5.out.lt)
    have HPw6 := Lib.hid (HPw5.out.below hbw6 HPw5.out.lt)
    have EAw6 := Lib.hid (EAw5.out.below hbw6)
    have ECw6 := Lib.hid (ECw5.out.below hbw6)
    have EOw6 := Lib.hid (EOw5.out.below hbw6)
    clear bG0 bG1 bG2 bG3 bzG
    cases ok
    · clear hok hbw6
      obtain ⟨w7, hww7⟩ : ∃ wq : World, wq = w6.alloc (.cells #[.int .i64 ta, .int .i64 tb, .slice TA tn tc] 47) := ⟨_, rfl⟩
      have HWw7 := Lib.hid hww7
      have hbw7 : Below w6.heap.size w6 w7 := by rw [hww7]; exact (Below.refl _ _).alloc (Nat.le_refl _) _
      have HTw7 : Hid (Blk' w7 w6.heap.size 47 #[.int .i64 ta, .int .i64 tb, .slice TA tn tc]) := Lib.hid (by rw [hww7]; exact Blk'.new _ _ _)
      have HBw7 := Lib.hid (bthen HBw6.out hbw7 HBw6.out.size)
      have zw6w7 : w6.heap.size ≤ w7.heap.size := hbw7.size
      have HGw7 := Lib.hid (HGw6.out.below hbw7 HGw6.out.lt)
      have HPw7 := Lib.hid (HPw6.out.below hbw7 HPw6.out.lt)
      have EAw7 := Lib.hid (EAw6.out.below hbw7)
      have ECw7 := Lib.hid (ECw6.out.below hbw7)
      have EOw7 := Lib.hid (EOw6.out.below hbw7)
      clear hww7 hbw7
      go_upto_region 13 with (fail)
      rw [← HWw7.out]
      have cG0 : w7.cell? ⟨w1.heap.size, 0, none⟩ = some (.int .i64 (m : Int)) := HGw7.out.cell 0
      have cG1 : w7.cell? ⟨w1.heap.size, 1, none⟩ = some (.int .i64 (n : Int)) := HGw7.out.cell 1
      have cG2 : w7.cell? ⟨w1.heap.size, 2, none⟩ = some (.int .i64 s0) := HGw7.out.cell 2
      have cG3 : w7.cell? ⟨w1.heap.size, 3, none⟩ = some (.slice A rs.length c) := HGw7.out.cell 3
      have czG : w1.heap.size < w7.heap.size := HGw7.out.lt
      have cP0 : w7.cell? ⟨w3.heap.size, 0, none⟩ = some (.int .i64 sg.terms) := HPw7.out.cell 0
      have cP1 : w7.cell? ⟨w3.heap.size, 1, none⟩ = some (.int .i64 sg.nons) := HPw7.out.cell 1
      have cP2 : w7.cell? ⟨w3.heap.size, 2, none⟩ = some (.int .i64 sg.start) := HPw7.out.cell 2
      have cP3 : w7.cell? ⟨w3.heap.size, 3, none⟩ = some (.slice A1 sg.rules.length c1) := HPw7.out.cell 3
      have cP4 : w7.cell? ⟨w3.heap.size, 4, none⟩ = some (.slice A2 fl c2) := HPw7.out.cell 4
      have czP : w3.heap.size < w7.heap.size := HPw7.out.lt
      go_wp2_with fail
      refine (makeTree_any sg A1 c1 ch B0 d0 _ S1 w7 HVs.out.i64 HQ.out.1 HQ.out.2 (by have := HVs.out.len; (try dsimp only at this ⊢); omega) (fun q hq => by have := (HVs.out.rules q hq).2.2.1; omega) EOw7.out (fun b hb => by have := hb.1; have := hb.2; omega) HD.out.1 HD.out.2 ECw7.out (fun b hb => by have := HS1.out b hb; omega)).mono ?_
      rintro e u1a ⟨v, ok, rfl, hbu1a, ⟨ta, tb, TA, tn, tc, rfl⟩, hok⟩
      cases ok
      · go_wp2
        go_ret
        exact ⟨rfl, (bthen HBw7.out hbu1a HBw7.out.size).alloc (by have := HBw7.out.size; have := hbu1a.size; omega) _⟩
      have HBu1a := Lib.hid (bthen HBw7.out hbu1a HBw7.out.size)
      have zw7u1a : w7.heap.size ≤ u1a.heap.size := hbu1a.size
      have HGu1a := Lib.hid (HGw7.out.below hbu1a HGw7.out.lt)
      have HPu1a := Lib.hid (HPw7.out.below hbu1a HPw7.out.lt)
      have HTu1a := Lib.hid (HTw7.out.below hbu1a HTw7.out.lt)
      have EAu1a := Lib.hid (EAw7.out.below hbu1a)
      have ECu1a := Lib.hid (ECw7.out.below hbu1a)
      have EOu1a := Lib.hid (EOw7.out.below hbu1a)
      obtain ⟨u, hvt, hvl, _, hno⟩ := hok rfl
      obtain ⟨ts, he, hra, hta, hts⟩ := hvl.tree
      injection he with he
      simp at he
      obtain ⟨rfl, rfl, rfl⟩ := he
      obtain ⟨rfl, htc1, htc2, htE⟩ := hts.els
      have HTu := Lib.hid (And.intro hvt hno)
      have HIu := Lib.hid (And.intro hra (And.intro hta (And.intro htc1 htc2)))
      have EUu1a := Lib.hid htE
      clear hvt hvl hno hts hra hta htc1 htc2 htE hok
      clear hbu1a cG0 cG1 cG2 cG3 czG cP0 cP1 cP2 cP3 cP4 czP
      obtain ⟨u2a, hwu2a⟩ : ∃ wq : World, wq = u1a.alloc (.cells #[.int .i64 u.rule, .int .i64 u.term, .slice TA u.kids.length tc] 47) := ⟨_, rfl⟩
      have HWu2a := Lib.hid hwu2a
      have hbu2a : Below u1a.heap.size u1a u2a := by rw [hwu2a]; exact (Below.refl _ _).alloc (Nat.le_refl _) _
      have HUu2a : Hid (Blk' u2a u1a.heap.size 47 #[.int .i64 u.rule, .int .i64 u.term, .slice TA u.kids.length tc]) := Lib.hid (by rw [hwu2a]; exact Blk'.new _ _ _)
      have HBu2a := Lib.hid (bthen HBu1a.out hbu2a HBu1a.out.size)
      have zu1au2a : u1a.heap.size ≤ u2a.heap.size := hbu2a.size
      have HGu2a := Lib.hid (HGu1a.out.below hbu2a HGu1a.out.lt)
      have HPu2a := Lib.hid (HPu1a.out.below hbu2a HPu1a.out.lt)
      have HTu2a := Lib.hid (HTu1a.out.below hbu2a HTu1a.out.lt)
      have EAu2a := Lib.hid (EAu1a.out.below hbu2a)
      have ECu2a := Lib.hid (ECu1a.out.below hbu2a)
      have EOu2a := Lib.hid (EOu1a.out.below hbu2a)
      have EUu2a := Lib.hid (EUu1a.out.below hbu2a)
      clear hwu2a hbu2a
      go_upto_region 15 with (fail)
      rw [← HWu2a.out]
      have dG0 : u2a.cell? ⟨w1.heap.size, 0, none⟩ = some (.int .i64 (m : Int)) := HGu2a.out.cell 0
      have dG1 : u2a.cell? ⟨w1.heap.size, 1, none⟩ = some (.int .i64 (n : Int)) := HGu2a.out.cell 1
      have dG2 : u2a.cell? ⟨w1.heap.size, 2, none⟩ = some (.int .i64 s0) := HGu2a.out.cell 2
      have dG3 : u2a.cell? ⟨w1.heap.size, 3, none⟩ = some (.slice A rs.length c) := HGu2a.out.cell 3
      have dzG : w1.heap.size < u2a.heap.size := HGu2a.out.lt
      have dU0 : u2a.cell? ⟨u1a.heap.size, 0, none⟩ = some (.int .i64 u.rule) := HUu2a.out.cell 0
      have dU1 : u2a.cell? ⟨u1a.heap.size, 1, none⟩ = some (.int .i64 u.term) := HUu2a.out.cell 1
      have dU2 : u2a.cell? ⟨u1a.heap.size, 2, none⟩ = some (.slice TA u.kids.length tc) := HUu2a.out.cell 2
      have dzU : u1a.heap.size < u2a.heap.size := HUu2a.out.lt
      obtain ⟨x, hx⟩ : ∃ x, x = bkT ⟨(m : Int), (n : Int), s0, rs⟩ n u := ⟨_, rfl⟩
      have HLw : Hid (vt ⟨(m : Int), (n : Int), s0, rs⟩ x ⟨false, s0⟩ ∧ thT ⟨(m : Int), (n : Int), s0, rs⟩ n x = u ∧ nodesT x ≤ 60) := Lib.hid (by
        have h := (bk_law HV.out rfl (nodesT u) u (Nat.le_refl _)).1 ⟨false, s0⟩ (by have := HTu.out.1; rw [HSg.out] at this; exact this) (.inr HV.out.s1)
        have := HTu.out.2
        rw [hx]
        exact ⟨h.1, h.2.1, by omega⟩)
      have hx0 : treeE ⟨(m : Int), (n : Int), s0, rs⟩ x = 0 := treeE_vt (fun q hq s hs ht => by have h := (HV.out.rules q hq).2.2.2 s hs; rw [if_pos ht] at h; exact h) HLw.out.1 (by have := HLw.out.2.2; omega)
      have hu0 : treeE (strG ⟨(m : Int), (n : Int), s0, rs⟩ n) u = 0 := by rw [← HSg.out]; exact treeE_vt (fun q hq s hs ht => by have h := (HVs.out.rules q hq).2.2.2 s hs; rw [if_pos ht] at h; exact h) HTu.out.1 (by have := HTu.out.2; omega)
      have HE0 := Lib.hid (And.intro hx0 hu0)
      clear hx0 hu0
      go_wp2_with fail
      refine (backP_ok m n s0 rs A c _ _ u ⟨false, s0⟩ TA tc u2a HCk.out HOk.out HL.out.1 HL.out.2 EAu2a.out (fun b hb => by have := hb.1; have := hb.2; omega) HIu.out.1 HIu.out.2.1 HIu.out.2.2.1 HIu.out.2.2.2 EUu2a.out (fun b hb => by have := hb.1; have := hb.2; omega) HE0.out.2 (by rw [← HSg.out]; have := HTu.out.1; rw [HSg.out] at this ⊢; exact this) (.inr HV.out.s1)).mono ?_
      rintro e u3a hres
      rw [← hx] at hres
      obtain ⟨XA, xc, rfl, hxr, hxt, hx1, hx2, hxE, hbu3a⟩ := hres
      have HIx := Lib.hid (And.intro hxr (And.intro hxt (And.intro hx1 hx2)))
      have EXu3a := Lib.hid hxE
      have HBu3a := Lib.hid (bthen HBu2a.out hbu3a HBu2a.out.size)
      have zu2au3a : u2a.heap.size ≤ u3a.heap.size := hbu3a.size
      have HGu3a := Lib.hid (HGu2a.out.below hbu3a HGu2a.out.lt)
      have HPu3a := Lib.hid (HPu2a.out.below hbu3a HPu2a.out.lt)
      have HTu3a := Lib.hid (HTu2a.out.below hbu3a HTu2a.out.lt)
      have HUu3a := Lib.hid (HUu2a.out.below hbu3a HUu2a.out.lt)
      have EAu3a := Lib.hid (EAu2a.out.below hbu3a)
      have ECu3a := Lib.hid (ECu2a.out.below hbu3a)
      have EOu3a := Lib.hid (EOu2a.out.below hbu3a)
      have EUu3a := Lib.hid (EUu2a.out.below hbu3a)
      clear hx hxr hxt hx1 hx2 hxE hbu3a dG0 dG1 dG2 dG3 dzG dU0 dU1 dU2 dzU
      obtain ⟨u4a, hwu4a⟩ : ∃ wq : World, wq = u3a.alloc (.cells #[.int .i64 x.rule, .int .i64 x.term, .slice XA x.kids.length xc] 47) := ⟨_, rfl⟩
      have HWu4a := Lib.hid hwu4a
      have hbu4a : Below u3a.heap.size u3a u4a := by rw [hwu4a]; exact (Below.refl _ _).alloc (Nat.le_refl _) _
      have HXu4a : Hid (Blk' u4a u3a.heap.size 47 #[.int .i64 x.rule, .int .i64 x.term, .slice XA x.kids.length xc]) := Lib.hid (by rw [hwu4a]; exact Blk'.new _ _ _)
      have HBu4a := Lib.hid (bthen HBu3a.out hbu4a HBu3a.out.size)
      have zu3au4a : u3a.heap.size ≤ u4a.heap.size := hbu4a.size
      have HGu4a := Lib.hid (HGu3a.out.below hbu4a HGu3a.out.lt)
      have HPu4a := Lib.hid (HPu3a.out.below hbu4a HPu3a.out.lt)
      have HTu4a := Lib.hid (HTu3a.out.below hbu4a HTu3a.out.lt)
      have HUu4a := Lib.hid (HUu3a.out.below hbu4a HUu3a.out.lt)
      have EAu4a := Lib.hid (EAu3a.out.below hbu4a)
      have ECu4a := Lib.hid (ECu3a.out.below hbu4a)
      have EOu4a := Lib.hid (EOu3a.out.below hbu4a)
      have EUu4a := Lib.hid (EUu3a.out.below hbu4a)
      have EXu4a := Lib.hid (EXu3a.out.below hbu4a)
      clear hwu4a hbu4a
      go_upto_region 16 with (fail)
      rw [← HWu4a.out]
      have eG0 : u4a.cell? ⟨w1.heap.size, 0, none⟩ = some (.int .i64 (m : Int)) := HGu4a.out.cell 0
      have eG1 : u4a.cell? ⟨w1.heap.size, 1, none⟩ = some (.int .i64 (n : Int)) := HGu4a.out.cell 1
      have eG2 : u4a.cell? ⟨w1.heap.size, 2, none⟩ = some (.int .i64 s0) := HGu4a.out.cell 2
      have eG3 : u4a.cell? ⟨w1.heap.size, 3, none⟩ = some (.slice A rs.length c) := HGu4a.out.cell 3
      have ezG : w1.heap.size < u4a.heap.size := HGu4a.out.lt
      have eX0 : u4a.cell? ⟨u3a.heap.size, 0, none⟩ = some (.int .i64 x.rule) := HXu4a.out.cell 0
      have eX1 : u4a.cell? ⟨u3a.heap.size, 1, none⟩ = some (.int .i64 x.term) := HXu4a.out.cell 1
      have eX2 : u4a.cell? ⟨u3a.heap.size, 2, none⟩ = some (.slice XA x.kids.length xc) := HXu4a.out.cell 2
      have ezX : u3a.heap.size < u4a.heap.size := HXu4a.out.lt
      go_wp2_with fail
      refine (thereP_ok m n s0 rs A c _ _ x ⟨false, s0⟩ XA xc u4a HCk.out HOk.out HL.out.1 HL.out.2 EAu4a.out (fun b hb => by have := hb.1; have := hb.2; omega) HIx.out.1 HIx.out.2.1 HIx.out.2.2.1 HIx.out.2.2.2 EXu4a.out (fun b hb => by have := hb.1; have := hb.2; omega) HE0.out.1 HLw.out.1 (by rw [HLw.out.2.1]; have := HTu.out.2; omega)).mono ?_
      rintro e u5a hres
      rw [HLw.out.2.1] at hres
      obtain ⟨YA, yc, rfl, _, _, hy1, hy2, hyE, hbu5a⟩ := hres
      have HIy := Lib.hid (And.intro hy1 hy2)
      have EYu5a := Lib.hid hyE
      have HBu5a := Lib.hid (bthen HBu4a.out hbu5a HBu4a.out.size)
      have zu4au5a : u4a.heap.size ≤ u5a.heap.size := hbu5a.size
      have HGu5a := Lib.hid (HGu4a.out.below hbu5a HGu4a.out.lt)
      have HPu5a := Lib.hid (HPu4a.out.below hbu5a HPu4a.out.lt)
      have HTu5a := Lib.hid (HTu4a.out.below hbu5a HTu4a.out.lt)
      have HUu5a := Lib.hid (HUu4a.out.below hbu5a HUu4a.out.lt)
      have HXu5a := Lib.hid (HXu4a.out.below hbu5a HXu4a.out.lt)
      have EAu5a := Lib.hid (EAu4a.out.below hbu5a)
      have ECu5a := Lib.hid (ECu4a.out.below hbu5a)
      have EOu5a := Lib.hid (EOu4a.out.below hbu5a)
      have EUu5a := Lib.hid (EUu4a.out.below hbu5a)
      have EXu5a := Lib.hid (EXu4a.out.below hbu5a)
      clear hy1 hy2 hyE hbu5a eG0 eG1 eG2 eG3 ezG eX0 eX1 eX2 ezX
      obtain ⟨u6a, hwu6a⟩ : ∃ wq : World, wq = u5a.alloc (.cells #[.int .i64 u.rule, .int .i64 u.term, .slice YA u.kids.length yc] 47) := ⟨_, rfl⟩
      have HWu6a := Lib.hid hwu6a
      have hbu6a : Below u5a.heap.size u5a u6a := by rw [hwu6a]; exact (Below.refl _ _).alloc (Nat.le_refl _) _
      have HYu6a : Hid (Blk' u6a u5a.heap.size 47 #[.int .i64 u.rule, .int .i64 u.term, .slice YA u.kids.length yc]) := Lib.hid (by rw [hwu6a]; exact Blk'.new _ _ _)
      have HBu6a := Lib.hid (bthen HBu5a.out hbu6a HBu5a.out.size)
      have zu5au6a : u5a.heap.size ≤ u6a.heap.size := hbu6a.size
      have HGu6a := Lib.hid (HGu5a.out.below hbu6a HGu5a.out.lt)
      have HPu6a := Lib.hid (HPu5a.out.below hbu6a HPu5a.out.lt)
      have HTu6a := Lib.hid (HTu5a.out.below hbu6a HTu5a.out.lt)
      have HUu6a := Lib.hid (HUu5a.out.below hbu6a HUu5a.out.lt)
      have HXu6a := Lib.hid (HXu5a.out.below hbu6a HXu5a.out.lt)
      have EAu6a := Lib.hid (EAu5a.out.below hbu6a)
      have ECu6a := Lib.hid (ECu5a.out.below hbu6a)
      have EOu6a := Lib.hid (EOu5a.out.below hbu6a)
      have EUu6a := Lib.hid (EUu5a.out.below hbu6a)
      have EXu6a := Lib.hid (EXu5a.out.below hbu6a)
      have EYu6a := Lib.hid (EYu5a.out.below hbu6a)
      clear hwu6a hbu6a
      go_upto_region 17 with (fail)
      rw [← HWu6a.out]
      have fU0 : u6a.cell? ⟨u1a.heap.size, 0, none⟩ = some (.int .i64 u.rule) := HUu6a.out.cell 0
      have fU1 : u6a.cell? ⟨u1a.heap.size, 1, none⟩ = some (.int .i64 u.term) := HUu6a.out.cell 1
      have fU2 : u6a.cell? ⟨u1a.heap.size, 2, none⟩ = some (.slice TA u.kids.length tc) := HUu6a.out.cell 2
      have fzU : u1a.heap.size < u6a.heap.size := HUu6a.out.lt
      have fY0 : u6a.cell? ⟨u5a.heap.size, 0, none⟩ = some (.int .i64 u.rule) := HYu6a.out.cell 0
      have fY1 : u6a.cell? ⟨u5a.heap.size, 1, none⟩ = some (.int .i64 u.term) := HYu6a.out.cell 1
      have fY2 : u6a.cell? ⟨u5a.heap.size, 2, none⟩ = some (.slice YA u.kids.length yc) := HYu6a.out.cell 2
      have fzY : u5a.heap.size < u6a.heap.size := HYu6a.out.lt
      go_wp2_with fail
      refine (sameTreeK_any _ _ u u TA YA tc yc u6a HIu.out.2.2 HIy.out EUu6a.out EYu6a.out).mono ?_
      rintro e w9 ⟨rfl, hb9⟩
      rw [show decide (u = u) = true from decide_eq_true rfl]
      have HB9 := Lib.hid (bthen HBu6a.out hb9 HBu6a.out.size)
      clear hb9 fU0 fU1 fU2 fzU fY0 fY1 fY2 fzY
      go_wp2
      go_ret
      exact ⟨rfl, HB9.out⟩
    · obtain ⟨t, hvt, hvl, _, hno⟩ := hok rfl
      obtain ⟨ts, he, hra, hta, hts⟩ := hvl.tree
      injection he with he
      simp at he
      obtain ⟨rfl, rfl, rfl⟩ := he
      obtain ⟨rfl, htc1, htc2, htE⟩ := hts.els
      have HTt := Lib.hid (And.intro hvt hno)
      have HIt := Lib.hid (And.intro hra (And.intro hta (And.intro htc1 htc2)))
      have ETw6 := Lib.hid htE
      clear hvt hvl hno hts hra hta htc1 htc2 htE hok
      clear hbw6
      obtain ⟨w7, hww7⟩ : ∃ wq : World, wq = w6.alloc (.cells #[.int .i64 t.rule, .int .i64 t.term, .slice TA t.kids.length tc] 47) := ⟨_, rfl⟩
      have HWw7 := Lib.hid hww7
      have hbw7 : Below w6.heap.size w6 w7 := by rw [hww7]; exact (Below.refl _ _).alloc (Nat.le_refl _) _
      have HTw7 : Hid (Blk' w7 w6.heap.size 47 #[.int .i64 t.rule, .int .i64 t.term, .slice TA t.kids.length tc]) := Lib.hid (by rw [hww7]; exact Blk'.new _ _ _)
      have HBw7 := Lib.hid (bthen HBw6.out hbw7 HBw6.out.size)
      have zw6w7 : w6.heap.size ≤ w7.heap.size := hbw7.size
      have HGw7 := Lib.hid (HGw6.out.below hbw7 HGw6.out.lt)
      have HPw7 := Lib.hid (HPw6.out.below hbw7 HPw6.out.lt)
      have EAw7 := Lib.hid (EAw6.out.below hbw7)
      have ECw7 := Lib.hid (ECw6.out.below hbw7)
      have EOw7 := Lib.hid (EOw6.out.below hbw7)
      have ETw7 := Lib.hid (ETw6.out.below hbw7)
      clear hww7 hbw7
      go_upto_region 9 with (fail)
      rw [← HWw7.out]
      have dG0 : w7.cell? ⟨w1.heap.size, 0, none⟩ = some (.int .i64 (m : Int)) := HGw7.out.cell 0
      have dG1 : w7.cell? ⟨w1.heap.size, 1, none⟩ = some (.int .i64 (n : Int)) := HGw7.out.cell 1
      have dG2 : w7.cell? ⟨w1.heap.size, 2, none⟩ = some (.int .i64 s0) := HGw7.out.cell 2
      have dG3 : w7.cell? ⟨w1.heap.size, 3, none⟩ = some (.slice A rs.length c) := HGw7.out.cell 3
      have dzG : w1.heap.size < w7.heap.size := HGw7.out.lt
      have dT0 : w7.cell? ⟨w6.heap.size, 0, none⟩ = some (.int .i64 t.rule) := HTw7.out.cell 0
      have dT1 : w7.cell? ⟨w6.heap.size, 1, none⟩ = some (.int .i64 t.term) := HTw7.out.cell 1
      have dT2 : w7.cell? ⟨w6.heap.size, 2, none⟩ = some (.slice TA t.kids.length tc) := HTw7.out.cell 2
      have dzT : w6.heap.size < w7.heap.size := HTw7.out.lt
      obtain ⟨x, hx⟩ : ∃ x, x = thT ⟨(m : Int), (n : Int), s0, rs⟩ n t := ⟨_, rfl⟩
      have HLx : Hid (vt sg x ⟨false, s0⟩ ∧ bkT ⟨(m : Int), (n : Int), s0, rs⟩ n x = t ∧ yieldT x = yieldT t ∧ nodesT x ≤ 120) := Lib.hid (by
        have h := (th_law HV.out rfl (nodesT t) t (Nat.le_refl _)).1 ⟨false, s0⟩ HTt.out.1 (.inr HV.out.s1)
        have := HTt.out.2
        rw [hx, HSg.out]
        exact ⟨h.1, h.2.1, h.2.2.1, by omega⟩)
      have hx0 : treeE (strG ⟨(m : Int), (n : Int), s0, rs⟩ n) x = 0 := by rw [← HSg.out]; exact treeE_vt (fun q hq s hs ht => by have h := (HVs.out.rules q hq).2.2.2 s hs; rw [if_pos ht] at h; exact h) HLx.out.1 (by have := HLx.out.2.2.2; omega)
      have ht0 : treeE ⟨(m : Int), (n : Int), s0, rs⟩ t = 0 := treeE_vt (fun q hq s hs ht => by have h := (HV.out.rules q hq).2.2.2 s hs; rw [if_pos ht] at h; exact h) HTt.out.1 (by have := HTt.out.2; omega)
      have HYl : Hid ((yieldT t).length ≤ 60) := Lib.hid (by have := HTt.out.2; have := yield_nodes t; omega)
      have HE0 := Lib.hid (And.intro hx0 ht0)
      clear hx0 ht0
      go_wp2_with fail
      refine (thereP_ok m n s0 rs A c _ _ t ⟨false, s0⟩ TA tc w7 HCk.out HOk.out HL.out.1 HL.out.2 EAw7.out (fun b hb => by have := hb.1; have := hb.2; omega) HIt.out.1 HIt.out.2.1 HIt.out.2.2.1 HIt.out.2.2.2 ETw7.out (fun b hb => by have := hb.1; have := hb.2; omega) HE0.out.2 HTt.out.1 (by rw [← hx]; have := HLx.out.2.2.2; omega)).mono ?_
      rintro e w8 hres
      rw [← hx] at hres
      obtain ⟨XA, xc, rfl, hxr, hxt, hx1, hx2, hxE, hbw8⟩ := hres
      have HIx := Lib.hid (And.intro hxr (And.intro hxt (And.intro hx1 hx2)))
      have EXw8 := Lib.hid hxE
      have HBw8 := Lib.hid (bthen HBw7.out hbw8 HBw7.out.size)
      have zw7w8 : w7.heap.size ≤ w8.heap.size := hbw8.size
      have HGw8 := Lib.hid (HGw7.out.below hbw8 HGw7.out.lt)
      have HPw8 := Lib.hid (HPw7.out.below hbw8 HPw7.out.lt)
      have HTw8 := Lib.hid (HTw7.out.below hbw8 HTw7.out.lt)
      have EAw8 := Lib.hid (EAw7.out.below hbw8)
      have ECw8 := Lib.hid (ECw7.out.below hbw8)
      have EOw8 := Lib.hid (EOw7.out.below hbw8)
      have ETw8 := Lib.hid (ETw7.out.below hbw8)
      clear hx hxr hxt hx1 hx2 hxE hbw8 dG0 dG1 dG2 dG3 dzG dT0 dT1 dT2 dzT
      obtain ⟨w9, hww9⟩ : ∃ wq : World, wq = w8.alloc (.cells #[.int .i64 x.rule, .int .i64 x.term, .slice XA x.kids.length xc] 47) := ⟨_, rfl⟩
      have HWw9 := Lib.hid hww9
      have hbw9 : Below w8.heap.size w8 w9 := by rw [hww9]; exact (Below.refl _ _).alloc (Nat.le_refl _) _
      have HXw9 : Hid (Blk' w9 w8.heap.size 47 #[.int .i64 x.rule, .int .i64 x.term, .slice XA x.kids.length xc]) := Lib.hid (by rw [hww9]; exact Blk'.new _ _ _)
      have HBw9 := Lib.hid (bthen HBw8.out hbw9 HBw8.out.size)
      have zw8w9 : w8.heap.size ≤ w9.heap.size := hbw9.size
      have HGw9 := Lib.hid (HGw8.out.below hbw9 HGw8.out.lt)
      have HPw9 := Lib.hid (HPw8.out.below hbw9 HPw8.out.lt)
      have HTw9 := Lib.hid (HTw8.out.below hbw9 HTw8.out.lt)
      have EAw9 := Lib.hid (EAw8.out.below hbw9)
      have ECw9 := Lib.hid (ECw8.out.below hbw9)
      have EOw9 := Lib.hid (EOw8.out.below hbw9)
      have ETw9 := Lib.hid (ETw8.out.below hbw9)
      have EXw9 := Lib.hid (EXw8.out.below hbw9)
      clear hww9 hbw9
      go_upto_region 10 with (fail)
      rw [← HWw9.out]
      have eG0 : w9.cell? ⟨w1.heap.size, 0, none⟩ = some (.int .i64 (m : Int)) := HGw9.out.cell 0
      have eG1 : w9.cell? ⟨w1.heap.size, 1, none⟩ = some (.int .i64 (n : Int)) := HGw9.out.cell 1
      have eG2 : w9.cell? ⟨w1.heap.size, 2, none⟩ = some (.int .i64 s0) := HGw9.out.cell 2
      have eG3 : w9.cell? ⟨w1.heap.size, 3, none⟩ = some (.slice A rs.length c) := HGw9.out.cell 3
      have ezG : w1.heap.size < w9.heap.size := HGw9.out.lt
      have eX0 : w9.cell? ⟨w8.heap.size, 0, none⟩ = some (.int .i64 x.rule) := HXw9.out.cell 0
      have eX1 : w9.cell? ⟨w8.heap.size, 1, none⟩ = some (.int .i64 x.term) := HXw9.out.cell 1
      have eX2 : w9.cell? ⟨w8.heap.size, 2, none⟩ = some (.slice XA x.kids.length xc) := HXw9.out.cell 2
      have ezX : w8.heap.size < w9.heap.size := HXw9.out.lt
      go_wp2_with fail
      refine (backP_ok m n s0 rs A c _ _ x ⟨false, s0⟩ XA xc w9 HCk.out HOk.out HL.out.1 HL.out.2 EAw9.out (fun b hb => by have := hb.1; have := hb.2; omega) HIx.out.1 HIx.out.2.1 HIx.out.2.2.1 HIx.out.2.2.2 EXw9.out (fun b hb => by have := hb.1; have := hb.2; omega) HE0.out.1 (by have := HLx.out.1; rw [HSg.out] at this; exact this) (.inr HV.out.s1)).mono ?_
      rintro e w10 hres
      rw [HLx.out.2.1] at hres
      obtain ⟨YA, yc, rfl, _, _, hy1, hy2, hyE, hbw10⟩ := hres
      have HIy := Lib.hid (And.intro hy1 hy2)
      have EYw10 := Lib.hid hyE
      have HBw10 := Lib.hid (bthen HBw9.out hbw10 HBw9.out.size)
      have zw9w10 : w9.heap.size ≤ w10.heap.size := hbw10.size
      have HGw10 := Lib.hid (HGw9.out.below hbw10 HGw9.out.lt)
      have HPw10 := Lib.hid (HPw9.out.below hbw10 HPw9.out.lt)
      have HTw10 := Lib.hid (HTw9.out.below hbw10 HTw9.out.lt)
      have HXw10 := Lib.hid (HXw9.out.below hbw10 HXw9.out.lt)
      have EAw10 := Lib.hid (EAw9.out.below hbw10)
      have ECw10 := Lib.hid (ECw9.out.below hbw10)
      have EOw10 := Lib.hid (EOw9.out.below hbw10)
      have ETw10 := Lib.hid (ETw9.out.below hbw10)
      have EXw10 := Lib.hid (EXw9.out.below hbw10)
      clear hy1 hy2 hyE hbw10 eG0 eG1 eG2 eG3 ezG eX0 eX1 eX2 ezX
      obtain ⟨w11, hww11⟩ : ∃ wq : World, wq = w10.alloc (.cells #[.int .i64 t.rule, .int .i64 t.term, .slice YA t.kids.length yc] 47) := ⟨_, rfl⟩
      have HWw11 := Lib.hid hww11
      have hbw11 : Below w10.heap.size w10 w11 := by rw [hww11]; exact (Below.refl _ _).alloc (Nat.le_refl _) _
      have HYw11 : Hid (Blk' w11 w10.heap.size 47 #[.int .i64 t.rule, .int .i64 t.term, .slice YA t.kids.length yc]) := Lib.hid (by rw [hww11]; exact Blk'.new _ _ _)
      have HBw11 := Lib.hid (bthen HBw10.out hbw11 HBw10.out.size)
      have zw10w11 : w10.heap.size ≤ w11.heap.size := hbw11.size
      have HGw11 := Lib.hid (HGw10.out.below hbw11 HGw10.out.lt)
      have HPw11 := Lib.hid (HPw10.out.below hbw11 HPw10.out.lt)
      have HTw11 := Lib.hid (HTw10.out.below hbw11 HTw10.out.lt)
      have HXw11 := Lib.hid (HXw10.out.below hbw11 HXw10.out.lt)
      have EAw11 := Lib.hid (EAw10.out.below hbw11)
      have ECw11 := Lib.hid (ECw10.out.below hbw11)
      have EOw11 := Lib.hid (EOw10.out.below hbw11)
      have ETw11 := Lib.hid (ETw10.out.below hbw11)
      have EXw11 := Lib.hid (EXw10.out.below hbw11)
      have EYw11 := Lib.hid (EYw10.out.below hbw11)
      clear hww11 hbw11
      go_upto_region 11 with (fail)
      rw [← HWw11.out]
      have fT0 : w11.cell? ⟨w6.heap.size, 0, none⟩ = some (.int .i64 t.rule) := HTw11.out.cell 0
      have fT1 : w11.cell? ⟨w6.heap.size, 1, none⟩ = some (.int .i64 t.term) := HTw11.out.cell 1
      have fT2 : w11.cell? ⟨w6.heap.size, 2, none⟩ = some (.slice TA t.kids.length tc) := HTw11.out.cell 2
      have fzT : w6.heap.size < w11.heap.size := HTw11.out.lt
      have fX0 : w11.cell? ⟨w8.heap.size, 0, none⟩ = some (.int .i64 x.rule) := HXw11.out.cell 0
      have fX1 : w11.cell? ⟨w8.heap.size, 1, none⟩ = some (.int .i64 x.term) := HXw11.out.cell 1
      have fX2 : w11.cell? ⟨w8.heap.size, 2, none⟩ = some (.slice XA x.kids.length xc) := HXw11.out.cell 2
      have fzX : w8.heap.size < w11.heap.size := HXw11.out.lt
      have fY0 : w11.cell? ⟨w10.heap.size, 0, none⟩ = some (.int .i64 t.rule) := HYw11.out.cell 0
      have fY1 : w11.cell? ⟨w10.heap.size, 1, none⟩ = some (.int .i64 t.term) := HYw11.out.cell 1
      have fY2 : w11.cell? ⟨w10.heap.size, 2, none⟩ = some (.slice YA t.kids.length yc) := HYw11.out.cell 2
      have fzY : w10.heap.size < w11.heap.size := HYw11.out.lt
      refine wp_region_noPanic ?_
      refine wp_region_held_drew (S := (fun w' => w'.cell? ⟨w6.heap.size, 0, none⟩ = some (.int .i64 t.rule) ∧ w'.cell? ⟨w6.heap.size, 1, none⟩ = some (.int .i64 t.term) ∧ w'.cell? ⟨w6.heap.size, 2, none⟩ = some (.slice TA t.kids.length tc) ∧ w'.cell? ⟨w8.heap.size, 0, none⟩ = some (.int .i64 x.rule) ∧ w'.cell? ⟨w8.heap.size, 1, none⟩ = some (.int .i64 x.term) ∧ w'.cell? ⟨w8.heap.size, 2, none⟩ = some (.slice XA x.kids.length xc) ∧ w'.cell? ⟨w10.heap.size, 0, none⟩ = some (.int .i64 t.rule) ∧ w'.cell? ⟨w10.heap.size, 1, none⟩ = some (.int .i64 t.term) ∧ w'.cell? ⟨w10.heap.size, 2, none⟩ = some (.slice YA t.kids.length yc))) (by kernel_rfl) ?hr (fun hHeld => ?br)
      case hr => ((try dsimp only); go_keep)
      refine take_run (i := 0) (v := ?vr0) rfl (by kernel_rfl) (by kernel_rfl) (by kernel_rfl) (fun _ _ _ h => h) (by rfl) ?yr0 (by assumption) ?rr0
      case yr0 => (intro w hSw; (try dsimp only at hSw); go_simp; try with_reducible rfl)
      try simp only [Act.put, List.setIfInBounds_toArray, List.set_cons_zero, List.set_cons_succ]
      refine take_run (i := 1) (v := ?vr1) rfl (by kernel_rfl) (by kernel_rfl) (by kernel_rfl) (fun _ _ _ h => h) (by rfl) ?yr1 (by assumption) ?rr1
      case yr1 => (intro w hSw; (try dsimp only at hSw); go_simp; try with_reducible rfl)
      try simp only [Act.put, List.setIfInBounds_toArray, List.set_cons_zero, List.set_cons_succ]
      refine take_run (i := 2) (v := ?vr2) rfl (by kernel_rfl) (by kernel_rfl) (by kernel_rfl) (fun _ _ _ h => h) (by rfl) ?yr2 (by assumption) ?rr2
      case yr2 => (intro w hSw; (try dsimp only at hSw); go_simp; try with_reducible rfl)
      try simp only [Act.put, List.setIfInBounds_toArray, List.set_cons_zero, List.set_cons_succ]
      refine take_run (i := 3) (v := ?vr3) rfl (by kernel_rfl) (by kernel_rfl) (by kernel_rfl) (fun _ _ _ h => h) (by rfl) ?yr3 (by assumption) ?rr3
      case yr3 => (intro w hSw; (try dsimp only at hSw); go_simp; try with_reducible rfl)
      try simp only [Act.put, List.setIfInBounds_toArray, List.set_cons_zero, List.set_cons_succ]
      refine take_run (i := 4) (v := ?vr4) rfl (by kernel_rfl) (by kernel_rfl) (by kernel_rfl) (fun _ _ _ h => h) (by rfl) ?yr4 (by assumption) ?rr4
      case yr4 => (intro w hSw; (try dsimp only at hSw); go_simp; try with_reducible rfl)
      try simp only [Act.put, List.setIfInBounds_toArray, List.set_cons_zero, List.set_cons_succ]
      refine take_run (i := 5) (v := ?vr5) rfl (by kernel_rfl) (by kernel_rfl) (by kernel_rfl) (fun _ _ _ h => h) (by rfl) ?yr5 (by assumption) ?rr5
      case yr5 => (intro w hSw; (try dsimp only at hSw); go_simp; try with_reducible rfl)
      try simp only [Act.put, List.setIfInBounds_toArray, List.set_cons_zero, List.set_cons_succ]
      refine take_run (i := 6) (v := ?vr6) rfl (by kernel_rfl) (by kernel_rfl) (by kernel_rfl) (fun _ _ _ h => h) (by rfl) ?yr6 (by assumption) ?rr6
      case yr6 => (intro w hSw; (try dsimp only at hSw); go_simp; try with_reducible rfl)
      try simp only [Act.put, List.setIfInBounds_toArray, List.set_cons_zero, List.set_cons_succ]
      refine take_run (i := 7) (v := ?vr7) rfl (by kernel_rfl) (by kernel_rfl) (by kernel_rfl) (fun _ _ _ h => h) (by rfl) ?yr7 (by assumption) ?rr7
      case yr7 => (intro w hSw; (try dsimp only at hSw); go_simp; try with_reducible rfl)
      try simp only [Act.put, List.setIfInBounds_toArray, List.set_cons_zero, List.set_cons_succ]
      refine take_run (i := 8) (v := ?vr8) rfl (by kernel_rfl) (by kernel_rfl) (by kernel_rfl) (fun _ _ _ h => h) (by rfl) ?yr8 (by assumption) ?rr8
      case yr8 => (intro w hSw; (try dsimp only at hSw); go_simp; try with_reducible rfl)
      try simp only [Act.put, List.setIfInBounds_toArray, List.set_cons_zero, List.set_cons_succ]
      refine take_call (i := 9) rfl (by kernel_rfl) (by rfl) (fun Kq hK => ?_)
      go_simp
      go_at_call 14
      refine (sameTreeK_any _ _ t t TA YA tc yc w11.drew HIt.out.2.2 HIy.out (ETw11.out.below ((Below.refl _ _).drew)) (EYw11.out.below ((Below.refl _ _).drew))).mono ?_
      rintro e wa ⟨rfl, hbwa⟩
      rw [show decide (t = t) = true from decide_eq_true rfl]
      replace hbwa : Below w11.heap.size w11 wa := bundrew hbwa
      have HBwa := Lib.hid (bthen HBw11.out hbwa HBw11.out.size)
      have zw11wa : w11.heap.size ≤ wa.heap.size := hbwa.size
      have HGwa := Lib.hid (HGw11.out.below hbwa HGw11.out.lt)
      have HPwa := Lib.hid (HPw11.out.below hbwa HPw11.out.lt)
      have HTwa := Lib.hid (HTw11.out.below hbwa HTw11.out.lt)
      have HXwa := Lib.hid (HXw11.out.below hbwa HXw11.out.lt)
      have HYwa := Lib.hid (HYw11.out.below hbwa HYw11.out.lt)
      have EAwa := Lib.hid (EAw11.out.below hbwa)
      have ECwa := Lib.hid (ECw11.out.below hbwa)
      have EOwa := Lib.hid (EOw11.out.below hbwa)
      have ETwa := Lib.hid (ETw11.out.below hbwa)
      have EXwa := Lib.hid (EXw11.out.below hbwa)
      have EYwa := Lib.hid (EYw11.out.below hbwa)
      have gT0 := (hbwa.cell (p := ⟨w6.heap.size, 0, none⟩) fzT).trans fT0
      have gT1 := (hbwa.cell (p := ⟨w6.heap.size, 1, none⟩) fzT).trans fT1
      have gT2 := (hbwa.cell (p := ⟨w6.heap.size, 2, none⟩) fzT).trans fT2
      have gzT : w6.heap.size < wa.heap.size := Nat.lt_of_lt_of_le fzT hbwa.size
      have gX0 := (hbwa.cell (p := ⟨w8.heap.size, 0, none⟩) fzX).trans fX0
      have gX1 := (hbwa.cell (p := ⟨w8.heap.size, 1, none⟩) fzX).trans fX1
      have gX2 := (hbwa.cell (p := ⟨w8.heap.size, 2, none⟩) fzX).trans fX2
      have gzX : w8.heap.size < wa.heap.size := Nat.lt_of_lt_of_le fzX hbwa.size
      have gY0 := (hbwa.cell (p := ⟨w10.heap.size, 0, none⟩) fzY).trans fY0
      have gY1 := (hbwa.cell (p := ⟨w10.heap.size, 1, none⟩) fzY).trans fY1
      have gY2 := (hbwa.cell (p := ⟨w10.heap.size, 2, none⟩) fzY).trans fY2
      have gzY : w10.heap.size < wa.heap.size := Nat.lt_of_lt_of_le fzY hbwa.size
      clear hbwa
      refine hK.out _ _ ?hr9 (fun hHeld => ?rr9)
      case hr9 => ((try dsimp only); go_keep)
      clear hK Kq
      try simp only [Act.put, List.setIfInBounds_toArray, List.set_cons_zero, List.set_cons_succ]
      refine take_run (i := 10) (v := ?vr10) rfl (by kernel_rfl) (by kernel_rfl) (by kernel_rfl) (fun _ _ _ h => h) (by rfl) ?yr10 (by assumption) ?rr10
      case yr10 => (intro w hSw; (try dsimp only at hSw); go_simp; try with_reducible rfl)
      try simp only [Act.put, List.setIfInBounds_toArray, List.set_cons_zero, List.set_cons_succ]
      refine take_run (i := 11) (v := ?vr11) rfl (by kernel_rfl) (by kernel_rfl) (by kernel_rfl) (fun _ _ _ h => h) (by rfl) ?yr11 (by assumption) ?rr11
      case yr11 => (intro w hSw; (try dsimp only at hSw); go_simp; try with_reducible rfl)
      try simp only [Act.put, List.setIfInBounds_toArray, List.set_cons_zero, List.set_cons_succ]
      refine take_run (i := 12) (v := ?vr12) rfl (by kernel_rfl) (by kernel_rfl) (by kernel_rfl) (fun _ _ _ h => h) (by rfl) ?yr12 (by assumption) ?rr12
      case yr12 => (intro w hSw; (try dsimp only at hSw); go_simp; try with_reducible rfl)
      try simp only [Act.put, List.setIfInBounds_toArray, List.set_cons_zero, List.set_cons_succ]
      refine take_run (i := 13) (v := ?vr13) rfl (by kernel_rfl) (by kernel_rfl) (by kernel_rfl) (fun _ _ _ h => h) (by rfl) ?yr13 (by assumption) ?rr13
      case yr13 => (intro w hSw; (try dsimp only at hSw); go_simp; try with_reducible rfl)
      try simp only [Act.put, List.setIfInBounds_toArray, List.set_cons_zero, List.set_cons_succ]
      refine take_run (i := 15) (v := ?vr15) rfl (by kernel_rfl) (by kernel_rfl) (by kernel_rfl) (fun _ _ _ h => h) (by rfl) ?yr15 (by assumption) ?rr15
      case yr15 => (intro w hSw; (try dsimp only at hSw); go_simp; try with_reducible rfl)
      try simp only [Act.put, List.setIfInBounds_toArray, List.set_cons_zero, List.set_cons_succ]
      refine take_call (i := 14) rfl (by kernel_rfl) (by rfl) (fun Kq hK => ?_)
      go_simp
      go_at_call 16
      refine (yield_any t TA tc _ wa (fun b hb => by have := hb.1; have := hb.2; omega) HIt.out.1 HIt.out.2.1 HIt.out.2.2.1 HIt.out.2.2.2 ETwa.out (by have := HYl.out; omega)).mono ?_
      rintro e wb ⟨vb, rfl, hOb, hbwb⟩
      obtain ⟨Ab, cb, rfl, hb1, hb2, _⟩ := hOb.form
      have EQwb := Lib.hid hOb.vl.els.2.2.2
      have HBwb := Lib.hid (bthen HBwa.out hbwb HBwa.out.size)
      have zwawb : wa.heap.size ≤ wb.heap.size := hbwb.size
      have HGwb := Lib.hid (HGwa.out.below hbwb HGwa.out.lt)
      have HPwb := Lib.hid (HPwa.out.below hbwb HPwa.out.lt)
      have HTwb := Lib.hid (HTwa.out.below hbwb HTwa.out.lt)
      have HXwb := Lib.hid (HXwa.out.below hbwb HXwa.out.lt)
      have HYwb := Lib.hid (HYwa.out.below hbwb HYwa.out.lt)
      have EAwb := Lib.hid (EAwa.out.below hbwb)
      have ECwb := Lib.hid (ECwa.out.below hbwb)
      have EOwb := Lib.hid (EOwa.out.below hbwb)
      have ETwb := Lib.hid (ETwa.out.below hbwb)
      have EXwb := Lib.hid (EXwa.out.below hbwb)
      have EYwb := Lib.hid (EYwa.out.below hbwb)
      have iT0 := (hbwb.cell (p := ⟨w6.heap.size, 0, none⟩) gzT).trans gT0
      have iT1 := (hbwb.cell (p := ⟨w6.heap.size, 1, none⟩) gzT).trans gT1
      have iT2 := (hbwb.cell (p := ⟨w6.heap.size, 2, none⟩) gzT).trans gT2
      have izT : w6.heap.size < wb.heap.size := Nat.lt_of_lt_of_le gzT hbwb.size
      have iX0 := (hbwb.cell (p := ⟨w8.heap.size, 0, none⟩) gzX).trans gX0
      have iX1 := (hbwb.cell (p := ⟨w8.heap.size, 1, none⟩) gzX).trans gX1
      have iX2 := (hbwb.cell (p := ⟨w8.heap.size, 2, none⟩) gzX).trans gX2
      have izX : w8.heap.size < wb.heap.size := Nat.lt_of_lt_of_le gzX hbwb.size
      have iY0 := (hbwb.cell (p := ⟨w10.heap.size, 0, none⟩) gzY).trans gY0
      have iY1 := (hbwb.cell (p := ⟨w10.heap.size, 1, none⟩) gzY).trans gY1
      have iY2 := (hbwb.cell (p := ⟨w10.heap.size, 2, none⟩) gzY).trans gY2
      have izY : w10.heap.size < wb.heap.size := Nat.lt_of_lt_of_le gzY hbwb.size
      clear hOb hbwb
      refine hK.out _ _ ?hr14 (fun hHeld => ?rr14)
      case hr14 => ((try dsimp only); go_keep)
      clear hK Kq
      try simp only [Act.put, List.setIfInBounds_toArray, List.set_cons_zero, List.set_cons_succ]
      refine take_call (i := 16) rfl (by kernel_rfl) (by rfl) (fun Kq hK => ?_)
      go_simp
      go_at_call 16
      refine (yield_any x XA xc _ wb (fun b hb => by have := hb.1; have := hb.2; omega) HIx.out.1 HIx.out.2.1 HIx.out.2.2.1 HIx.out.2.2.2 EXwb.out (by rw [HLx.out.2.2.1]; have := HYl.out; omega)).mono ?_
      rintro e wc ⟨vc, rfl, hOc, hbwc⟩
      rw [HLx.out.2.2.1] at hOc
      obtain ⟨Ac, cc, rfl, hc1, hc2, _⟩ := hOc.form
      have ERwc := Lib.hid hOc.vl.els.2.2.2
      have HBwc := Lib.hid (bthen HBwb.out hbwc HBwb.out.size)
      have zwbwc : wb.heap.size ≤ wc.heap.size := hbwc.size
      have HGwc := Lib.hid (HGwb.out.below hbwc HGwb.out.lt)
      have HPwc := Lib.hid (HPwb.out.below hbwc HPwb.out.lt)
      have HTwc := Lib.hid (HTwb.out.below hbwc HTwb.out.lt)
      have HXwc := Lib.hid (HXwb.out.below hbwc HXwb.out.lt)
      have HYwc := Lib.hid (HYwb.out.below hbwc HYwb.out.lt)
      have EAwc := Lib.hid (EAwb.out.below hbwc)
      have ECwc := Lib.hid (ECwb.out.below hbwc)
      have EOwc := Lib.hid (EOwb.out.below hbwc)
      have ETwc := Lib.hid (ETwb.out.below hbwc)
      have EXwc := Lib.hid (EXwb.out.below hbwc)
      have EYwc := Lib.hid (EYwb.out.below hbwc)
      have EQwc := Lib.hid (EQwb.out.below hbwc)
      have jT0 := (hbwc.cell (p := ⟨w6.heap.size, 0, none⟩) izT).trans iT0
      have jT1 := (hbwc.cell (p := ⟨w6.heap.size, 1, none⟩) izT).trans iT1
      have jT2 := (hbwc.cell (p := ⟨w6.heap.size, 2, none⟩) izT).trans iT2
      have jzT : w6.heap.size < wc.heap.size := Nat.lt_of_lt_of_le izT hbwc.size
      have jX0 := (hbwc.cell (p := ⟨w8.heap.size, 0, none⟩) izX).trans iX0
      have jX1 := (hbwc.cell (p := ⟨w8.heap.size, 1, none⟩) izX).trans iX1
      have jX2 := (hbwc.cell (p := ⟨w8.heap.size, 2, none⟩) izX).trans iX2
      have jzX : w8.heap.size < wc.heap.size := Nat.lt_of_lt_of_le izX hbwc.size
      have jY0 := (hbwc.cell (p := ⟨w10.heap.size, 0, none⟩) izY).trans iY0
      have jY1 := (hbwc.cell (p := ⟨w10.heap.size, 1, none⟩) izY).trans iY1
      have jY2 := (hbwc.cell (p := ⟨w10.heap.size, 2, none⟩) izY).trans iY2
      have jzY : w10.heap.size < wc.heap.size := Nat.lt_of_lt_of_le izY hbwc.size
      clear hOc hbwc
      refine hK.out _ _ ?hr16 (fun hHeld => ?rr16)
      case hr16 => ((try dsimp only); go_keep)
      clear hK Kq
      try simp only [Act.put, List.setIfInBounds_toArray, List.set_cons_zero, List.set_cons_succ]
      refine take_call (i := 17) rfl (by kernel_rfl) (by rfl) (fun Kq hK => ?_)
      go_simp
      go_at_call 15
      refine (equalInt_any Ab Ac (yieldT t) (yieldT t) _ _ cb cc _ _ wc rfl rfl (by have := HYl.out; omega) (by have := HYl.out; omega) EQwc.out ERwc.out).mono ?_
      rintro e wd ⟨rfl, hbwd⟩
      rw [show decide (yieldT t = yieldT t) = true from decide_eq_true rfl]
      have HBwd := Lib.hid (bthen HBwc.out hbwd HBwc.out.size)
      have zwcwd : wc.heap.size ≤ wd.heap.size := hbwd.size
      have HGwd := Lib.hid (HGwc.out.below hbwd HGwc.out.lt)
      have HPwd := Lib.hid (HPwc.out.below hbwd HPwc.out.lt)
      have HTwd := Lib.hid (HTwc.out.below hbwd HTwc.out.lt)
      have HXwd := Lib.hid (HXwc.out.below hbwd HXwc.out.lt)
      have HYwd := Lib.hid (HYwc.out.below hbwd HYwc.out.lt)
      have EAwd := Lib.hid (EAwc.out.below hbwd)
      have ECwd := Lib.hid (ECwc.out.below hbwd)
      have EOwd := Lib.hid (EOwc.out.below hbwd)
      have ETwd := Lib.hid (ETwc.out.below hbwd)
      have EXwd := Lib.hid (EXwc.out.below hbwd)
      have EYwd := Lib.hid (EYwc.out.below hbwd)
      have EQwd := Lib.hid (EQwc.out.below hbwd)
      have ERwd := Lib.hid (ERwc.out.below hbwd)
      have kT0 := (hbwd.cell (p := ⟨w6.heap.size, 0, none⟩) jzT).trans jT0
      have kT1 := (hbwd.cell (p := ⟨w6.heap.size, 1, none⟩) jzT).trans jT1
      have kT2 := (hbwd.cell (p := ⟨w6.heap.size, 2, none⟩) jzT).trans jT2
      have kzT : w6.heap.size < wd.heap.size := Nat.lt_of_lt_of_le jzT hbwd.size
      have kX0 := (hbwd.cell (p := ⟨w8.heap.size, 0, none⟩) jzX).trans jX0
      have kX1 := (hbwd.cell (p := ⟨w8.heap.size, 1, none⟩) jzX).trans jX1
      have kX2 := (hbwd.cell (p := ⟨w8.heap.size, 2, none⟩) jzX).trans jX2
      have kzX : w8.heap.size < wd.heap.size := Nat.lt_of_lt_of_le jzX hbwd.size
      have kY0 := (hbwd.cell (p := ⟨w10.heap.size, 0, none⟩) jzY).trans jY0
      have kY1 := (hbwd.cell (p := ⟨w10.heap.size, 1, none⟩) jzY).trans jY1
      have kY2 := (hbwd.cell (p := ⟨w10.heap.size, 2, none⟩) jzY).trans jY2
      have kzY : w10.heap.size < wd.heap.size := Nat.lt_of_lt_of_le jzY hbwd.size
      clear hbwd
      refine hK.out _ _ ?hr17 (fun hHeld => ?rr17)
      case hr17 => ((try dsimp only); go_keep)
      clear hK Kq
      try simp only [Act.put, List.setIfInBounds_toArray, List.set_cons_zero, List.set_cons_succ]
      refine take_run (i := 18) (v := ?vr18) rfl (by kernel_rfl) (by kernel_rfl) (by kernel_rfl) (fun _ _ _ h => h) (by rfl) ?yr18 (by assumption) ?rr18
      case yr18 => (intro w hSw; (try dsimp only at hSw); go_simp; try with_reducible rfl)
      try simp only [Act.put, List.setIfInBounds_toArray, List.set_cons_zero, List.set_cons_succ]
      refine take_run (i := 19) (v := ?vr19) rfl (by kernel_rfl) (by kernel_rfl) (by kernel_rfl) (fun _ _ _ h => h) (by rfl) ?yr19 (by assumption) ?rr19
      case yr19 => (intro w hSw; (try dsimp only at hSw); go_simp; try with_reducible rfl)
      try simp only [Act.put, List.setIfInBounds_toArray, List.set_cons_zero, List.set_cons_succ]
      refine wpAnyH_done (by kernel_rfl) ?_ _
      refine NoPanic.normal ?_
      clear fT0 fT1 fT2 fX0 fX1 fX2 fY0 fY1 fY2 gT0 gT1 gT2 gX0 gX1 gX2 gY0 gY1 gY2 iT0 iT1 iT2 iX0 iX1 iX2 iY0 iY1 iY2 jT0 jT1 jT2 jX0 jX1 jX2 jY0 jY1 jY2 kT0 kT1 kT2 kX0 kX1 kX2 kY0 kY1 kY2 fzT fzX fzY gzT gzX gzY izT izX izY jzT jzX jzY kzT kzX kzY
      go_upto_region 13 with (fail)
      clear HTt HIt HLx HE0 HIx HIy HYl
      have cG0 : wd.cell? ⟨w1.heap.size, 0, none⟩ = some (.int .i64 (m : Int)) := HGwd.out.cell 0
      have cG1 : wd.cell? ⟨w1.heap.size, 1, none⟩ = some (.int .i64 (n : Int)) := HGwd.out.cell 1
      have cG2 : wd.cell? ⟨w1.heap.size, 2, none⟩ = some (.int .i64 s0) := HGwd.out.cell 2
      have cG3 : wd.cell? ⟨w1.heap.size, 3, none⟩ = some (.slice A rs.length c) := HGwd.out.cell 3
      have czG : w1.heap.size < wd.heap.size := HGwd.out.lt
      have cP0 : wd.cell? ⟨w3.heap.size, 0, none⟩ = some (.int .i64 sg.terms) := HPwd.out.cell 0
      have cP1 : wd.cell? ⟨w3.heap.size, 1, none⟩ = some (.int .i64 sg.nons) := HPwd.out.cell 1
      have cP2 : wd.cell? ⟨w3.heap.size, 2, none⟩ = some (.int .i64 sg.start) := HPwd.out.cell 2
      have cP3 : wd.cell? ⟨w3.heap.size, 3, none⟩ = some (.slice A1 sg.rules.length c1) := HPwd.out.cell 3
      have cP4 : wd.cell? ⟨w3.heap.size, 4, none⟩ = some (.slice A2 fl c2) := HPwd.out.cell 4
      have czP : w3.heap.size < wd.heap.size := HPwd.out.lt
      go_wp2_with fail
      refine (makeTree_any sg A1 c1 ch B0 d0 _ S1 wd HVs.out.i64 HQ.out.1 HQ.out.2 (by have := HVs.out.len; (try dsimp only at this ⊢); omega) (fun q hq => by have := (HVs.out.rules q hq).2.2.1; omega) EOwd.out (fun b hb => by have := hb.1; have := hb.2; omega) HD.out.1 HD.out.2 ECwd.out (fun b hb => by have := HS1.out b hb; omega)).mono ?_
      rintro e u1b ⟨v, ok, rfl, hbu1b, ⟨ta, tb, TA, tn, tc, rfl⟩, hok⟩
      cases ok
      · go_wp2
        go_ret
        exact ⟨rfl, (bthen HBwd.out hbu1b HBwd.out.size).alloc (by have := HBwd.out.size; have := hbu1b.size; omega) _⟩
      have HBu1b := Lib.hid (bthen HBwd.out hbu1b HBwd.out.size)
      have zwdu1b : wd.heap.size ≤ u1b.heap.size := hbu1b.size
      have HGu1b := Lib.hid (HGwd.out.below hbu1b HGwd.out.lt)
      have HPu1b := Lib.hid (HPwd.out.below hbu1b HPwd.out.lt)
      have EAu1b := Lib.hid (EAwd.out.below hbu1b)
      have ECu1b := Lib.hid (ECwd.out.below hbu1b)
      have EOu1b := Lib.hid (EOwd.out.below hbu1b)
      obtain ⟨u, hvt, hvl, _, hno⟩ := hok rfl
      obtain ⟨ts, he, hra, hta, hts⟩ := hvl.tree
      injection he with he
      simp at he
      obtain ⟨rfl, rfl, rfl⟩ := he
      obtain ⟨rfl, htc1, htc2, htE⟩ := hts.els
      have HTu := Lib.hid (And.intro hvt hno)
      have HIu := Lib.hid (And.intro hra (And.intro hta (And.intro htc1 htc2)))
      have EUu1b := Lib.hid htE
      clear hvt hvl hno hts hra hta htc1 htc2 htE hok
      clear hbu1b cG0 cG1 cG2 cG3 czG cP0 cP1 cP2 cP3 cP4 czP
      obtain ⟨u2b, hwu2b⟩ : ∃ wq : World, wq = u1b.alloc (.cells #[.int .i64 u.rule, .int .i64 u.term, .slice TA u.kids.length tc] 47) := ⟨_, rfl⟩
      have HWu2b := Lib.hid hwu2b
      have hbu2b : Below u1b.heap.size u1b u2b := by rw [hwu2b]; exact (Below.refl _ _).alloc (Nat.le_refl _) _
      have HUu2b : Hid (Blk' u2b u1b.heap.size 47 #[.int .i64 u.rule, .int .i64 u.term, .slice TA u.kids.length tc]) := Lib.hid (by rw [hwu2b]; exact Blk'.new _ _ _)
      have HBu2b := Lib.hid (bthen HBu1b.out hbu2b HBu1b.out.size)
      have zu1bu2b : u1b.heap.size ≤ u2b.heap.size := hbu2b.size
      have HGu2b := Lib.hid (HGu1b.out.below hbu2b HGu1b.out.lt)
      have HPu2b := Lib.hid (HPu1b.out.below hbu2b HPu1b.out.lt)
      have EAu2b := Lib.hid (EAu1b.out.below hbu2b)
      have ECu2b := Lib.hid (ECu1b.out.below hbu2b)
      have EOu2b := Lib.hid (EOu1b.out.below hbu2b)
      have EUu2b := Lib.hid (EUu1b.out.below hbu2b)
      clear hwu2b hbu2b
      go_upto_region 15 with (fail)
      rw [← HWu2b.out]
      have dG0 : u2b.cell? ⟨w1.heap.size, 0, none⟩ = some (.int .i64 (m : Int)) := HGu2b.out.cell 0
      have dG1 : u2b.cell? ⟨w1.heap.size, 1, none⟩ = some (.int .i64 (n : Int)) := HGu2b.out.cell 1
      have dG2 : u2b.cell? ⟨w1.heap.size, 2, none⟩ = some (.int .i64 s0) := HGu2b.out.cell 2
      have dG3 : u2b.cell? ⟨w1.heap.size, 3, none⟩ = some (.slice A rs.length c) := HGu2b.out.cell 3
      have dzG : w1.heap.size < u2b.heap.size := HGu2b.out.lt
      have dU0 : u2b.cell? ⟨u1b.heap.size, 0, none⟩ = some (.int .i64 u.rule) := HUu2b.out.cell 0
      have dU1 : u2b.cell? ⟨u1b.heap.size, 1, none⟩ = some (.int .i64 u.term) := HUu2b.out.cell 1
      have dU2 : u2b.cell? ⟨u1b.heap.size, 2, none⟩ = some (.slice TA u.kids.length tc) := HUu2b.out.cell 2
      have dzU : u1b.heap.size < u2b.heap.size := HUu2b.out.lt
      obtain ⟨x, hx⟩ : ∃ x, x = bkT ⟨(m : Int), (n : Int), s0, rs⟩ n u := ⟨_, rfl⟩
      have HLw : Hid (vt ⟨(m : Int), (n : Int), s0, rs⟩ x ⟨false, s0⟩ ∧ thT ⟨(m : Int), (n : Int), s0, rs⟩ n x = u ∧ nodesT x ≤ 60) := Lib.hid (by
        have h := (bk_law HV.out rfl (nodesT u) u (Nat.le_refl _)).1 ⟨false, s0⟩ (by have := HTu.out.1; rw [HSg.out] at this; exact this) (.inr HV.out.s1)
        have := HTu.out.2
        rw [hx]
        exact ⟨h.1, h.2.1, by omega⟩)
      have hx0 : treeE ⟨(m : Int), (n : Int), s0, rs⟩ x = 0 := treeE_vt (fun q hq s hs ht => by have h := (HV.out.rules q hq).2.2.2 s hs; rw [if_pos ht] at h; exact h) HLw.out.1 (by have := HLw.out.2.2; omega)
      have hu0 : treeE (strG ⟨(m : Int), (n : Int), s0, rs⟩ n) u = 0 := by rw [← HSg.out]; exact treeE_vt (fun q hq s hs ht => by have h := (HVs.out.rules q hq).2.2.2 s hs; rw [if_pos ht] at h; exact h) HTu.out.1 (by have := HTu.out.2; omega)
      have HE0 := Lib.hid (And.intro hx0 hu0)
      clear hx0 hu0
      go_wp2_with fail
      refine (backP_ok m n s0 rs A c _ _ u ⟨false, s0⟩ TA tc u2b HCk.out HOk.out HL.out.1 HL.out.2 EAu2b.out (fun b hb => by have := hb.1; have := hb.2; omega) HIu.out.1 HIu.out.2.1 HIu.out.2.2.1 HIu.out.2.2.2 EUu2b.out (fun b hb => by have := hb.1; have := hb.2; omega) HE0.out.2 (by rw [← HSg.out]; have := HTu.out.1; rw [HSg.out] at this ⊢; exact this) (.inr HV.out.s1)).mono ?_
      rintro e u3b hres
      rw [← hx] at hres
      obtain ⟨XA, xc, rfl, hxr, hxt, hx1, hx2, hxE, hbu3b⟩ := hres
      have HIx := Lib.hid (And.intro hxr (And.intro hxt (And.intro hx1 hx2)))
      have EXu3b := Lib.hid hxE
      have HBu3b := Lib.hid (bthen HBu2b.out hbu3b HBu2b.out.size)
      have zu2bu3b : u2b.heap.size ≤ u3b.heap.size := hbu3b.size
      have HGu3b := Lib.hid (HGu2b.out.below hbu3b HGu2b.out.lt)
      have HPu3b := Lib.hid (HPu2b.out.below hbu3b HPu2b.out.lt)
      have HUu3b := Lib.hid (HUu2b.out.below hbu3b HUu2b.out.lt)
      have EAu3b := Lib.hid (EAu2b.out.below hbu3b)
      have ECu3b := Lib.hid (ECu2b.out.below hbu3b)
      have EOu3b := Lib.hid (EOu2b.out.below hbu3b)
      have EUu3b := Lib.hid (EUu2b.out.below hbu3b)
      clear hx hxr hxt hx1 hx2 hxE hbu3b dG0 dG1 dG2 dG3 dzG dU0 dU1 dU2 dzU
      obtain ⟨u4b, hwu4b⟩ : ∃ wq : World, wq = u3b.alloc (.cells #[.int .i64 x.rule, .int .i64 x.term, .slice XA x.kids.length xc] 47) := ⟨_, rfl⟩
      have HWu4b := Lib.hid hwu4b
      have hbu4b : Below u3b.heap.size u3b u4b := by rw [hwu4b]; exact (Below.refl _ _).alloc (Nat.le_refl _) _
      have HXu4b : Hid (Blk' u4b u3b.heap.size 47 #[.int .i64 x.rule, .int .i64 x.term, .slice XA x.kids.length xc]) := Lib.hid (by rw [hwu4b]; exact Blk'.new _ _ _)
      have HBu4b := Lib.hid (bthen HBu3b.out hbu4b HBu3b.out.size)
      have zu3bu4b : u3b.heap.size ≤ u4b.heap.size := hbu4b.size
      have HGu4b := Lib.hid (HGu3b.out.below hbu4b HGu3b.out.lt)
      have HPu4b := Lib.hid (HPu3b.out.below hbu4b HPu3b.out.lt)
      have HUu4b := Lib.hid (HUu3b.out.below hbu4b HUu3b.out.lt)
      have EAu4b := Lib.hid (EAu3b.out.below hbu4b)
      have ECu4b := Lib.hid (ECu3b.out.below hbu4b)
      have EOu4b := Lib.hid (EOu3b.out.below hbu4b)
      have EUu4b := Lib.hid (EUu3b.out.below hbu4b)
      have EXu4b := Lib.hid (EXu3b.out.below hbu4b)
      clear hwu4b hbu4b
      go_upto_region 16 with (fail)
      rw [← HWu4b.out]
      have eG0 : u4b.cell? ⟨w1.heap.size, 0, none⟩ = some (.int .i64 (m : Int)) := HGu4b.out.cell 0
      have eG1 : u4b.cell? ⟨w1.heap.size, 1, none⟩ = some (.int .i64 (n : Int)) := HGu4b.out.cell 1
      have eG2 : u4b.cell? ⟨w1.heap.size, 2, none⟩ = some (.int .i64 s0) := HGu4b.out.cell 2
      have eG3 : u4b.cell? ⟨w1.heap.size, 3, none⟩ = some (.slice A rs.length c) := HGu4b.out.cell 3
      have ezG : w1.heap.size < u4b.heap.size := HGu4b.out.lt
      have eX0 : u4b.cell? ⟨u3b.heap.size, 0, none⟩ = some (.int .i64 x.rule) := HXu4b.out.cell 0
      have eX1 : u4b.cell? ⟨u3b.heap.size, 1, none⟩ = some (.int .i64 x.term) := HXu4b.out.cell 1
      have eX2 : u4b.cell? ⟨u3b.heap.size, 2, none⟩ = some (.slice XA x.kids.length xc) := HXu4b.out.cell 2
      have ezX : u3b.heap.size < u4b.heap.size := HXu4b.out.lt
      go_wp2_with fail
      refine (thereP_ok m n s0 rs A c _ _ x ⟨false, s0⟩ XA xc u4b HCk.out HOk.out HL.out.1 HL.out.2 EAu4b.out (fun b hb => by have := hb.1; have := hb.2; omega) HIx.out.1 HIx.out.2.1 HIx.out.2.2.1 HIx.out.2.2.2 EXu4b.out (fun b hb => by have := hb.1; have := hb.2; omega) HE0.out.1 HLw.out.1 (by rw [HLw.out.2.1]; have := HTu.out.2; omega)).mono ?_
      rintro e u5b hres
      rw [HLw.out.2.1] at hres
      obtain ⟨YA, yc, rfl, _, _, hy1, hy2, hyE, hbu5b⟩ := hres
      have HIy := Lib.hid (And.intro hy1 hy2)
      have EYu5b := Lib.hid hyE
      have HBu5b := Lib.hid (bthen HBu4b.out hbu5b HBu4b.out.size)
      have zu4bu5b : u4b.heap.size ≤ u5b.heap.size := hbu5b.size
      have HGu5b := Lib.hid (HGu4b.out.below hbu5b HGu4b.out.lt)
      have HPu5b := Lib.hid (HPu4b.out.below hbu5b HPu4b.out.lt)
      have HUu5b := Lib.hid (HUu4b.out.below hbu5b HUu4b.out.lt)
      have HXu5b := Lib.hid (HXu4b.out.below hbu5b HXu4b.out.lt)
      have EAu5b := Lib.hid (EAu4b.out.below hbu5b)
      have ECu5b := Lib.hid (ECu4b.out.below hbu5b)
      have EOu5b := Lib.hid (EOu4b.out.below hbu5b)
      have EUu5b := Lib.hid (EUu4b.out.below hbu5b)
      have EXu5b := Lib.hid (EXu4b.out.below hbu5b)
      clear hy1 hy2 hyE hbu5b eG0 eG1 eG2 eG3 ezG eX0 eX1 eX2 ezX
      obtain ⟨u6b, hwu6b⟩ : ∃ wq : World, wq = u5b.alloc (.cells #[.int .i64 u.rule, .int .i64 u.term, .slice YA u.kids.length yc] 47) := ⟨_, rfl⟩
      have HWu6b := Lib.hid hwu6b
      have hbu6b : Below u5b.heap.size u5b u6b := by rw [hwu6b]; exact (Below.refl _ _).alloc (Nat.le_refl _) _
      have HYu6b : Hid (Blk' u6b u5b.heap.size 47 #[.int .i64 u.rule, .int .i64 u.term, .slice YA u.kids.length yc]) := Lib.hid (by rw [hwu6b]; exact Blk'.new _ _ _)
      have HBu6b := Lib.hid (bthen HBu5b.out hbu6b HBu5b.out.size)
      have zu5bu6b : u5b.heap.size ≤ u6b.heap.size := hbu6b.size
      have HGu6b := Lib.hid (HGu5b.out.below hbu6b HGu5b.out.lt)
      have HPu6b := Lib.hid (HPu5b.out.below hbu6b HPu5b.out.lt)
      have HUu6b := Lib.hid (HUu5b.out.below hbu6b HUu5b.out.lt)
      have HXu6b := Lib.hid (HXu5b.out.below hbu6b HXu5b.out.lt)
      have EAu6b := Lib.hid (EAu5b.out.below hbu6b)
      have ECu6b := Lib.hid (ECu5b.out.below hbu6b)
      have EOu6b := Lib.hid (EOu5b.out.below hbu6b)
      have EUu6b := Lib.hid (EUu5b.out.below hbu6b)
      have EXu6b := Lib.hid (EXu5b.out.below hbu6b)
      have EYu6b := Lib.hid (EYu5b.out.below hbu6b)
      clear hwu6b hbu6b
      go_upto_region 17 with (fail)
      rw [← HWu6b.out]
      have fU0 : u6b.cell? ⟨u1b.heap.size, 0, none⟩ = some (.int .i64 u.rule) := HUu6b.out.cell 0
      have fU1 : u6b.cell? ⟨u1b.heap.size, 1, none⟩ = some (.int .i64 u.term) := HUu6b.out.cell 1
      have fU2 : u6b.cell? ⟨u1b.heap.size, 2, none⟩ = some (.slice TA u.kids.length tc) := HUu6b.out.cell 2
      have fzU : u1b.heap.size < u6b.heap.size := HUu6b.out.lt
      have fY0 : u6b.cell? ⟨u5b.heap.size, 0, none⟩ = some (.int .i64 u.rule) := HYu6b.out.cell 0
      have fY1 : u6b.cell? ⟨u5b.heap.size, 1, none⟩ = some (.int .i64 u.term) := HYu6b.out.cell 1
      have fY2 : u6b.cell? ⟨u5b.heap.size, 2, none⟩ = some (.slice YA u.kids.length yc) := HYu6b.out.cell 2
      have fzY : u5b.heap.size < u6b.heap.size := HYu6b.out.lt
      go_wp2_with fail
      refine (sameTreeK_any _ _ u u TA YA tc yc u6b HIu.out.2.2 HIy.out EUu6b.out EYu6b.out).mono ?_
      rintro e w9 ⟨rfl, hb9⟩
      rw [show decide (u = u) = true from decide_eq_true rfl]
      have HB9 := Lib.hid (bthen HBu6b.out hb9 HBu6b.out.size)
      clear hb9 fU0 fU1 fU2 fzU fY0 fY1 fY2 fzY
      go_wp2
      go_ret
      exact ⟨rfl, HB9.out⟩

theorem leftrecTrees_row (l ch : List Int) (v0 v1 : Value) (W : World) (h0 : Vl W (OldS W) l v0) (h1 : Vl W (OldS W) ch v1) :
    Calls Try.prog 4 #[v0, v1] W fun e W' => e = .returned (.bool true) ∧ Below W.heap.size W W' := by
  obtain ⟨A, c, rfl, k1, k2, hA⟩ := h0.slice
  obtain ⟨B, d, rfl, k3, k4, hB⟩ := h1.slice
  exact leftrecTrees_any l ch A B c d (OldS W) (OldS W) W k1 k2 hA (fun b h => h) k3 k4 hB (fun b h => h)
end Go.Proofs.Ytecofoilghdedaa
