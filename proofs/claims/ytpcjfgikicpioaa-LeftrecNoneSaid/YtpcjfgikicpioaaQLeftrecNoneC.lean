/- The walk of the law LeftrecNone: the grammar without direct left recursion is not left recursive and has no cycle. -/
import Derived.Test.YtpcjfgikicpioaaQLeftPub
import Derived.Test.YtpcjfgikicpioaaQChainK
import Derived.Test.YtpcjfgikicpioaaQCycLeft
import Derived.Test.YtpcjfgikicpioaaQCyclic
import Derived.Test.YtpcjfgikicpioaaQGrammar
import Derived.Test.YtpcjfgikicpioaaQApartP
import Derived.Test.YtpcjfgikicpioaaQp1
namespace Go.Proofs.Ytpcjfgikicpioaa
open Go.RowKit
set_option linter.unusedVariables false

theorem straightR : (strG chainG 1).rules.length = 3 := by decide +kernel
theorem straightF : (fromL chainG 1).length = 3 := by decide +kernel
set_option maxRecDepth 100000 in
set_option maxHeartbeats 4000000 in
theorem straightens_any (w : World) : Calls Try.prog 18 #[] w fun e w' => e = .returned (.bool true) ∧ Below w.heap.size w w' := by
  have HC := Lib.hid chainC
  have HOk : Hid (StrOk chainG 1) := Lib.hid chK_ok
  go_enter Try.func18, Try.ntmps18
  go_wp2_with fail
  refine (chain_any w).mono ?_
  rintro e w1 ⟨A, rfl, hA, hb1⟩
  have HB1 := Lib.hid hb1
  have HA := Lib.hid hA
  clear hA hb1
  go_wp2_with fail
  refine (leftPub_any chainG 2 1 A 2 _ w1 rfl rfl HC.out (by decide) (by omega) HA.out (fun b hb => hb.2)).mono ?_
  rintro e w2 (⟨k, hbad, _⟩ | ⟨_, A1, A2, c1, c2, rfl, h1, h2, h3, h4, h5, h6, hb2⟩)
  · exact absurd hbad HOk.out.not
  have HB2 := Lib.hid (bthen HB1.out hb2 HB1.out.size)
  rw [straightR, straightF]
  clear h1 h2 h3 h4 h5 h6 hb2
  go_wp2
  go_ret
  exact ⟨rfl, HB2.out.alloc HB2.out.size _⟩

set_option maxRecDepth 100000 in
set_option maxHeartbeats 8000000 in
theorem leftrecNone_any (A0 : Option Addr) (c0 : Nat) (raw : List Int) (S0 : Nat → Prop) (w : World) (h1 : raw.length ≤ c0) (h2 : c0 ≤ 9223372036854775807) (hA0 : Els w S0 raw A0) (hS0 : ∀ b, S0 b → b < w.heap.size) :
    Calls Try.prog 5 #[.slice A0 raw.length c0] w fun e w' => e = .returned (.bool true) ∧ Below w.heap.size w w' := by
  go_enter Try.func5, Try.ntmps5
  go_wp2_with fail
  refine (grammar_any A0 c0 raw S0 _ h1 h2 hA0 hS0).mono ?_
  rintro e w1 ⟨g, v, hmade, rfl, hvl, hb1⟩
  obtain ⟨s, rfl, _, _, _, hs⟩ := hvl.gram
  obtain ⟨A, c, rfl, hlc, hc, hA⟩ := hs.slice
  have hck := made_check hmade
  have hvg := validG_of hck
  obtain ⟨t, nn, s0, rs⟩ := g
  dsimp only at *
  obtain ⟨n, hn⟩ : ∃ n : Nat, nn = (n : Int) := ⟨nn.toNat, by have := hvg.n1; dsimp only at this; omega⟩
  obtain ⟨m, hm⟩ : ∃ m : Nat, t = (m : Int) := ⟨t.toNat, by have := hvg.t1; dsimp only at this; omega⟩
  subst hn; subst hm
  have HCk := Lib.hid hck
  have HB1 := Lib.hid hb1
  have HA1 := Lib.hid hA
  clear hvl hs hA hb1 hmade hA0 hck hvg
  go_wp2_with fail
  refine (leftPub_any ⟨(m : Int), (n : Int), s0, rs⟩ m n A c _ w1 rfl rfl HCk.out hlc hc HA1.out (fun b hb => hb.2)).mono ?_
  rintro e w2 (⟨k, hbad, rfl, hb2⟩ | ⟨hok, A1, A2, c1, c2, rfl, q11, q12, hE1, q21, q22, hE2, hb2⟩)
  · have hk : (k != 0) = true := by simp [hbad.ne]
    obtain ⟨w3, hw3⟩ : ∃ w3 : World, w3 = w2.alloc (.cells #[.int .i64 0, .int .i64 0, .int .i64 0, .slice none 0 0, .slice none 0 0] 58) := ⟨_, rfl⟩
    have HW3 := Lib.hid hw3
    have HR3 : Hid (Blk' w3 w2.heap.size 58 #[.int .i64 0, .int .i64 0, .int .i64 0, .slice none 0 0, .slice none 0 0]) := Lib.hid (by rw [hw3]; exact Blk'.new w2 _ _)
    have hb3 : Below w2.heap.size w2 w3 := by rw [hw3]; exact (Below.refl _ _).alloc (Nat.le_refl _) _
    have HB3 := Lib.hid (bthen (bthen HB1.out hb2 HB1.out.size) hb3 (by have := HB1.out.size; have := hb2.size; omega))
    clear hw3 hb2 hb3
    go_upto_region 2 with (fail)
    rw [← HW3.out]
    go_wp2_with fail
    refine (straightens_any w3).mono ?_
    rintro e w4 ⟨rfl, hb4⟩
    have hR4 := HR3.out.below hb4 HR3.out.lt
    have HB4 := Lib.hid (bthen HB3.out hb4 HB3.out.size)
    have r4 : w4.cell? ⟨w2.heap.size, 4, none⟩ = some (.slice none 0 0) := hR4.cell 4
    have zR := hR4.lt
    clear hb4 hR4
    go_wp2
    go_ret
    exact ⟨rfl, HB4.out⟩
  · obtain ⟨sg, hsg⟩ : ∃ sg : Gram, sg = strG ⟨(m : Int), (n : Int), s0, rs⟩ n := ⟨_, rfl⟩
    obtain ⟨fs, hfs⟩ : ∃ fs : List Int, fs = fromL ⟨(m : Int), (n : Int), s0, rs⟩ n := ⟨_, rfl⟩
    obtain ⟨hcyc, _, hchk, hled⟩ := hok
    rw [← hsg] at q11 hE1 hchk hled
    rw [← hfs] at q21 hE2
    have hM : sg.terms = (m : Int) := by rw [hsg]; rfl
    have hN : sg.nons = ((n + cntRec ⟨(m : Int), (n : Int), s0, rs⟩ n : Nat) : Int) := by rw [hsg]; rfl
    obtain ⟨N, hNN⟩ : ∃ N : Nat, N = n + cntRec ⟨(m : Int), (n : Int), s0, rs⟩ n := ⟨_, rfl⟩
    rw [← hNN] at hN
    rw [← hsg, ← hfs]
    have HChk := Lib.hid hchk
    have HLed := Lib.hid hled
    have HNo := Lib.hid (noCyc_of_led (passIn_of (validG_of hchk) hN) hled)
    have HE1 := Lib.hid hE1
    clear hcyc hsg hfs hNN hchk hled hE1 hE2
    obtain ⟨st, sn, ss, xs⟩ := sg
    dsimp only at hM hN q11 HE1
    subst hM; subst hN
    dsimp only
    obtain ⟨w3, hw3⟩ : ∃ w3 : World, w3 = w2.alloc (.cells #[.int .i64 (m : Int), .int .i64 (N : Int), .int .i64 ss, .slice A1 xs.length c1, .slice A2 fs.length c2] 58) := ⟨_, rfl⟩
    have HW3 := Lib.hid hw3
    have HR3 : Hid (Blk' w3 w2.heap.size 58 #[.int .i64 (m : Int), .int .i64 (N : Int), .int .i64 ss, .slice A1 xs.length c1, .slice A2 fs.length c2]) := Lib.hid (by rw [hw3]; exact Blk'.new w2 _ _)
    have hb3 : Below w2.heap.size w2 w3 := by rw [hw3]; exact (Below.refl _ _).alloc (Nat.le_refl _) _
    have HB3 := Lib.hid (bthen (bthen HB1.out hb2 HB1.out.size) hb3 (by have := HB1.out.size; have := hb2.size; omega))
    have HE3 := Lib.hid (HE1.out.below hb3)
    clear hw3 hb2 hb3
    go_upto_region 2 with (fail)
    rw [← HW3.out]
    go_wp2_with fail
    refine (straightens_any w3).mono ?_
    rintro e w4 ⟨rfl, hb4⟩
    have HR4 := Lib.hid (HR3.out.below hb4 HR3.out.lt)
    have HB4 := Lib.hid (bthen HB3.out hb4 HB3.out.size)
    have HE4 := Lib.hid (HE3.out.below hb4)
    have r0 : w4.cell? ⟨w2.heap.size, 0, none⟩ = some (.int .i64 (m : Int)) := HR4.out.cell 0
    have r1 : w4.cell? ⟨w2.heap.size, 1, none⟩ = some (.int .i64 (N : Int)) := HR4.out.cell 1
    have r2 : w4.cell? ⟨w2.heap.size, 2, none⟩ = some (.int .i64 ss) := HR4.out.cell 2
    have r3 : w4.cell? ⟨w2.heap.size, 3, none⟩ = some (.slice A1 xs.length c1) := HR4.out.cell 3
    have zR : w2.heap.size < w4.heap.size := HR4.out.lt
    clear hb4
    go_wp2_with fail
    refine (left_any ⟨(m : Int), (N : Int), ss, xs⟩ m N A1 c1 _ w4 rfl rfl HChk.out q11 q12 HE4.out (fun b hb => by have := hb.2; omega)).mono ?_
    rintro e w5 ⟨vl, l, rfl, hF, hown, hb5⟩
    have hl := FiltIs.nil N l hF HLed.out
    subst hl
    obtain ⟨Al, cl, rfl, _, _, _⟩ := hown.form
    have HR5 := Lib.hid (HR4.out.below hb5 HR4.out.lt)
    have HB5 := Lib.hid (bthen HB4.out hb5 HB4.out.size)
    have HE5 := Lib.hid (HE4.out.below hb5)
    have hz5 := hb5.size
    have s0' : w5.cell? ⟨w2.heap.size, 0, none⟩ = some (.int .i64 (m : Int)) := HR5.out.cell 0
    have s1 : w5.cell? ⟨w2.heap.size, 1, none⟩ = some (.int .i64 (N : Int)) := HR5.out.cell 1
    have s2 : w5.cell? ⟨w2.heap.size, 2, none⟩ = some (.int .i64 ss) := HR5.out.cell 2
    have s3 : w5.cell? ⟨w2.heap.size, 3, none⟩ = some (.slice A1 xs.length c1) := HR5.out.cell 3
    have zR5 : w2.heap.size < w5.heap.size := HR5.out.lt
    clear hF hown hb5 r0 r1 r2 r3 zR
    go_wp2_with fail
    refine (cyclic_any ⟨(m : Int), (N : Int), ss, xs⟩ m N A1 c1 _ w5 rfl rfl HChk.out q11 q12 HE5.out (fun b hb => by have := hb.2; omega)).mono ?_
    rintro e w6 (⟨rfl, _, hb6⟩ | ⟨b, c', k, i, q, l, _, hcf, _, _⟩)
    · have HB6 := Lib.hid (bthen HB5.out hb6 HB5.out.size)
      clear hb6 s0' s1 s2 s3 zR5
      go_wp2
      go_ret
      exact ⟨rfl, HB6.out⟩
    · exact absurd hcf.tab (HNo.out k hcf.k1.1 hcf.k1.2 q (List.mem_of_getElem? hcf.rule))

theorem leftrecNone_row (l : List Int) (v : Value) (W : World) (h : Vl W (OldS W) l v) :
    Calls Try.prog 5 #[v] W fun e W' => e = .returned (.bool true) ∧ Below W.heap.size W W' := by
  obtain ⟨A, c, rfl, k1, k2, hA⟩ := h.slice
  exact leftrecNone_any A c l (OldS W) W k1 k2 hA (fun b h => h)
end Go.Proofs.Ytpcjfgikicpioaa
