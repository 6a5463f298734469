/- The walk of the law UsefulTreesStay. -/
import Derived.Test.YtlbhaegdcpacpaaTrim
import Derived.Test.YtlbhaegdcpacpaaMakeTreeTop
import Derived.Test.YtlbhaegdcpacpaaYield
import Derived.Test.YtlbhaegdcpacpaaApartP
import Derived.Test.YtlbhaegdcpacpaaWorks
import Derived.Test.YtlbhaegdcpacpaaContInt
import Derived.Test.YtlbhaegdcpacpaaIdxTree
import Derived.Test.YtlbhaegdcpacpaaOpen
namespace Go.Proofs.Ytlbhaegdcpacpaa
open Go.RowKit
set_option linter.unusedVariables false

theorem whereFrom_in (p : Rule → Bool) : ∀ (rs : List Rule) (k i : Nat) (q : Rule), rs[i]? = some q → p q = true → ((k + i : Nat) : Int) ∈ whereFrom p k rs
  | [], k, i, q, h, _ => by simp at h
  | r :: rs, k, 0, q, h, hp => by simp at h; subst h; rw [whereFrom, hp]; simp
  | r :: rs, k, i + 1, q, h, hp => by
    have := whereFrom_in p rs (k + 1) i q (by simpa using h) hp
    rw [show k + (i + 1) = k + 1 + i from by omega]
    rw [whereFrom]
    split
    · exact List.mem_cons_of_mem _ this
    · exact this
theorem allsIn_any (rs : List Int) : ∀ ks : List Tree, allsIn rs ks = !(ks.any fun k => !allIn rs k)
  | [] => rfl
  | k :: ks => by rw [allsIn, List.any_cons, allsIn_any rs ks]; cases allIn rs k <;> simp

/-- The closure's world: the rules in their box, the closure in its own. -/
def AllS (S : Nat → Prop) (RB VB : Nat) (rs : List Int) (w : World) : Prop :=
  ∃ A c, Blk' w RB 39 #[.slice A rs.length c] ∧ rs.length ≤ c ∧ c ≤ 9223372036854775807 ∧ Els w S rs A ∧ Blk' w VB 63 #[.func (.func 28) #[] #[.pointer (some ⟨RB, 0, none⟩), .pointer (some ⟨VB, 0, none⟩)]]
theorem AllS.below {S : Nat → Prop} {RB VB : Nat} {rs : List Int} {w w' : World} (h : AllS S RB VB rs w) (hb : Below w.heap.size w w') : AllS S RB VB rs w' := by
  obtain ⟨A, c, h1, h2, h3, h4, h5⟩ := h
  exact ⟨A, c, h1.below hb h1.lt, h2, h3, h4.below hb, h5.below hb h5.lt⟩

set_option maxRecDepth 100000 in
theorem stay11_any (Sr : Nat → Prop) (RB VB : Nat) (rs : List Int) (S : Nat → Prop) (x : Tree) (A : Option Addr) (c : Nat) (w : World) (b : Bool) (hst : AllS Sr RB VB rs w) (hA : Els w S x.kids A)
    (hcall : ∀ W : World, Els W S x.kids A → AllS Sr RB VB rs W → Calls Try.prog 28 #[.agg #[.int .i64 x.rule, .int .i64 x.term, .slice A x.kids.length c], .pointer (some ⟨RB, 0, none⟩), .pointer (some ⟨VB, 0, none⟩)] W
      fun e w' => e = .returned (.bool b) ∧ Below W.heap.size W w') :
    Calls Try.prog 31 #[.agg #[.int .i64 x.rule, .int .i64 x.term, .slice A x.kids.length c], .pointer (some ⟨VB, 0, none⟩)] w fun e w' => e = .returned (.bool (!b)) ∧ Below w.heap.size w w' := by
  have hba : Below w.heap.size w (w.alloc (.cells #[.int .i64 x.rule, .int .i64 x.term, .slice A x.kids.length c] 27)) := (Below.refl _ _).alloc (Nat.le_refl _) _
  have HBa := Lib.hid hba
  have HA := Lib.hid (hA.below hba)
  have HS := Lib.hid (hst.below hba)
  have HC := Lib.hid hcall
  obtain ⟨Ar, cr, k1, k2, k3, k4, k5⟩ := hst
  have v0 : w.cell? ⟨VB, 0, none⟩ = some (.func (.func 28) #[] #[.pointer (some ⟨RB, 0, none⟩), .pointer (some ⟨VB, 0, none⟩)]) := k5.cell 0
  have hVB := k5.lt
  clear hba hA hcall k1 k4 k5
  go_enter Try.func31, Try.ntmps31
  go_wp2_with fail
  refine (HC.out _ HA.out HS.out).mono ?_
  rintro e w1 ⟨rfl, hb1⟩
  have HB := Lib.hid (bthen HBa.out hb1 (by simp))
  clear hb1
  go_wp2
  go_ret
  exact ⟨rfl, HB.out⟩

set_option maxRecDepth 100000 in
set_option maxHeartbeats 1000000 in
theorem stayAll_any (Sr : Nat → Prop) (RB VB : Nat) (rs : List Int) (hrl : rs.length ≤ 1000) (S : Nat → Prop) : ∀ (t : Tree) (A : Option Addr) (c : Nat) (w : World), I64 t.rule → I64 t.term → t.kids.length ≤ c → c ≤ 9223372036854775807 → Els w S t.kids A → AllS Sr RB VB rs w →
    Calls Try.prog 28 #[.agg #[.int .i64 t.rule, .int .i64 t.term, .slice A t.kids.length c], .pointer (some ⟨RB, 0, none⟩), .pointer (some ⟨VB, 0, none⟩)] w
      fun e w' => e = .returned (.bool (allIn rs t)) ∧ Below w.heap.size w w' := by
  refine Tree.ind ?_
  intro r t ks ih A c w hr ht hlc hc hA hst
  have IH := Lib.hid ih
  dsimp only [Tree.rule, Tree.term, Tree.kids] at *
  have hba : Below w.heap.size w (w.alloc (.cells #[.int .i64 r, .int .i64 t, .slice A ks.length c] 27)) := (Below.refl _ _).alloc (Nat.le_refl _) _
  have HBa := Lib.hid hba
  have HA := Lib.hid (hA.below hba)
  have HS1 := Lib.hid (hst.below hba)
  obtain ⟨Ar, cr, k1, k2, k3, k4, k5⟩ := hst
  have r0 : w.cell? ⟨RB, 0, none⟩ = some (.slice Ar rs.length cr) := k1.cell 0
  have hRB := k1.lt
  have hRB2 : RB < w.heap.size + 1 := by omega
  have HR := Lib.hid (k4.below hba)
  have HTB := Lib.hid (Blk'.new w 27 #[.int .i64 r, .int .i64 t, .slice A ks.length c])
  have hm : ks.length ≤ 9223372036854775807 := by omega
  have HAll := Lib.hid (show allIn rs ⟨r, t, ks⟩ = ((decide (r < 0) || decide (r ∈ rs)) && !(ks.any fun k => !allIn rs k)) by rw [allIn, allsIn_any])
  clear ih hr ht hA hba k1 k4 k5
  go_enter Try.func28, Try.ntmps28
  have HK := Lib.hid (fun (W : World) (hW : Below (w.alloc (.cells #[.int .i64 r, .int .i64 t, .slice A ks.length c] 27)).heap.size (w.alloc (.cells #[.int .i64 r, .int .i64 t, .slice A ks.length c] 27)) W) (x : Tree) (hx : x ∈ ks) (A' : Option Addr) (c' : Nat) (h1 : I64 x.rule) (h2 : I64 x.term) (h3 : x.kids.length ≤ c') (h4 : c' ≤ 9223372036854775807) (h5 : Els W S x.kids A') =>
    stay11_any Sr RB VB rs S x A' c' W (allIn rs x) (HS1.out.below hW) h5 (fun W' hA' hS' => IH.out x hx A' c' W' h1 h2 h3 h4 hA' hS'))
  by_cases h0 : r < 0
  · go_wp2_with fail
    refine (contTree_any A c ks S _ _ (.pointer (some ⟨VB, 0, none⟩)) (fun k => !allIn rs k) hm HA.out (isGo_of Try.func31 (by kernel_rfl) (by kernel_rfl)) (fun x W hx hW A' c' h1 h2 h3 h4 h5 => HK.out W hW x hx A' c' h1 h2 h3 h4 h5)).mono ?_
    rintro e w1 ⟨rfl, hb1⟩
    have HB := Lib.hid (bthen HBa.out hb1 (by simp))
    have HE := Lib.hid (show allIn rs ⟨r, t, ks⟩ = !(ks.any fun k => !allIn rs k) by rw [HAll.out]; simp [h0])
    generalize (ks.any fun k => !allIn rs k) = b at *
    clear hb1
    go_wp2
    go_ret
    exact ⟨ret_bool HE.out.symm, HB.out⟩
  · go_wp2_with fail
    refine (containsInt_any Ar rs.length cr rs r Sr _ rfl (by omega) HR.out).mono ?_
    rintro e w' ⟨rfl, rfl⟩
    have t2 : (w.alloc (.cells #[.int .i64 r, .int .i64 t, .slice A ks.length c] 27)).cell? ⟨w.heap.size, 2, none⟩ = some (.slice A ks.length c) := HTB.out.cell 2
    by_cases hin : r ∈ rs
    · have hd : decide (r ∈ rs) = true := by simpa using hin
      have HE := Lib.hid (show allIn rs ⟨r, t, ks⟩ = !(ks.any fun k => !allIn rs k) by rw [HAll.out, hd, decide_eq_false (by omega : ¬ r < 0)]; rfl)
      rw [hd]
      clear hin hd HAll
      go_wp2_with fail
      refine (contTree_any A c ks S _ _ (.pointer (some ⟨VB, 0, none⟩)) (fun k => !allIn rs k) hm HA.out (isGo_of Try.func31 (by kernel_rfl) (by kernel_rfl)) (fun x W hx hW A' c' h1 h2 h3 h4 h5 => HK.out W hW x hx A' c' h1 h2 h3 h4 h5)).mono ?_
      rintro e w1 ⟨rfl, hb1⟩
      have HB := Lib.hid (bthen HBa.out hb1 (by simp))
      generalize (ks.any fun k => !allIn rs k) = b at *
      clear hb1
      go_wp2
      go_ret
      exact ⟨ret_bool HE.out.symm, HB.out⟩
    · have hd : decide (r ∈ rs) = false := by simpa using hin
      have HE := Lib.hid (show allIn rs ⟨r, t, ks⟩ = false by rw [HAll.out, hd, decide_eq_false (by omega : ¬ r < 0)]; rfl)
      rw [hd]
      clear hin hd HAll
      go_wp2
      go_ret
      exact ⟨ret_bool HE.out.symm, HBa.out⟩

set_option maxRecDepth 100000 in
set_option maxHeartbeats 2000000 in
theorem usefulTreesStay_any (A0 : Option Addr) (c0 : Nat) (raw : List Int) (B0 : Option Addr) (d0 : Nat) (ch : List Int) (S0 : Nat → Prop) (w : World) (h1 : raw.length ≤ c0) (h2 : c0 ≤ 9223372036854775807) (hA0 : Els w S0 raw A0) (h3 : ch.length ≤ d0) (h4 : d0 ≤ 9223372036854775807) (hB0 : Els w S0 ch B0) (hS0 : ∀ b, S0 b → b < w.heap.size) :
    Calls Try.prog 5 #[.slice A0 raw.length c0, .slice B0 ch.length d0] w fun e w' => e = .returned (.bool true) ∧ Below w.heap.size w w' := by
  have HB := Lib.hid hB0
  have HS := Lib.hid hS0
  clear hB0 hS0
  go_enter Try.func5, Try.ntmps5
  go_wp2_with fail
  refine (grammar_any A0 c0 raw S0 _ h1 h2 hA0 HS.out).mono ?_
  rintro e w1 ⟨g, v, hmade, rfl, hvl, hb1⟩
  obtain ⟨s, rfl, _, _, _, hs⟩ := hvl.gram
  obtain ⟨A, c, rfl, hlc, hc, hA⟩ := hs.slice
  have hck := made_check hmade
  have hvg := valid_of hck
  obtain ⟨t, nn, s0, rs⟩ := g
  dsimp only at *
  obtain ⟨n, hn⟩ : ∃ n : Nat, nn = (n : Int) := ⟨nn.toNat, by have := hvg.n1; dsimp only at this; omega⟩
  subst hn
  have HCk := Lib.hid hck
  have HV := Lib.hid hvg
  have hba : Below w1.heap.size w1 (w1.alloc (.cells #[.int .i64 t, .int .i64 (n : Int), .int .i64 s0, .slice A rs.length c] 38)) := (Below.refl _ _).alloc (Nat.le_refl _) _
  have HA1 := Lib.hid ((hA.keep (S' := fun b => b < w1.heap.size) (fun _ _ _ => rfl) (fun b hb => hb.2)).below hba)
  have HB1 := Lib.hid (bthen hb1 hba hb1.size)
  have HG1 := Lib.hid (Blk'.new w1 38 #[.int .i64 t, .int .i64 (n : Int), .int .i64 s0, .slice A rs.length c])
  have HBc := Lib.hid (HB.out.below (bthen hb1 hba hb1.size))
  have hz1 : w.heap.size ≤ w1.heap.size := hb1.size
  clear hvl hs hA hb1 hba hmade hA0 hck hvg
  go_wp2_with fail
  refine (makeTree_any ⟨t, (n : Int), s0, rs⟩ A c ch B0 d0 (fun b => b < w1.heap.size) S0 _ HV.out.i64 hlc hc (by have := HV.out.len; omega) (fun q hq => by have := (HV.out.rules q hq).2.2.1; omega) HA1.out (fun b hb => by simp; omega) h3 h4 HBc.out (fun b hb => by have := HS.out b hb; simp; omega)).mono ?_
  rintro e w2 ⟨v, ok, rfl, hb2, ⟨ta, tb, TA, tn, tc, rfl⟩, hok⟩
  have hbt : Below w2.heap.size w2 (w2.alloc (.cells #[.int .i64 ta, .int .i64 tb, .slice TA tn tc] 27)) := (Below.refl _ _).alloc (Nat.le_refl _) _
  have hb2t := bthen hb2 hbt hb2.size
  have HA2 := Lib.hid (HA1.out.below hb2t)
  have HB2 := Lib.hid (bthen HB1.out hb2t HB1.out.size)
  have hz2 : w1.heap.size < w2.heap.size := by have := hb2.size; simp at this; omega
  have g0 : w2.cell? ⟨w1.heap.size, 0, none⟩ = some (.int .i64 t) := (HG1.out.below hb2 HG1.out.lt).cell 0
  have g1 : w2.cell? ⟨w1.heap.size, 1, none⟩ = some (.int .i64 (n : Int)) := (HG1.out.below hb2 HG1.out.lt).cell 1
  have g2 : w2.cell? ⟨w1.heap.size, 2, none⟩ = some (.int .i64 s0) := (HG1.out.below hb2 HG1.out.lt).cell 2
  have g3 : w2.cell? ⟨w1.heap.size, 3, none⟩ = some (.slice A rs.length c) := (HG1.out.below hb2 HG1.out.lt).cell 3
  have HT2 := Lib.hid (And.intro hok (Blk'.new w2 27 #[.int .i64 ta, .int .i64 tb, .slice TA tn tc]))
  have HZ2 : Hid (∀ b, b < w1.heap.size → b < (w2.alloc (.cells #[.int .i64 ta, .int .i64 tb, .slice TA tn tc] 27)).heap.size) := Lib.hid (fun b hb => by simp; omega)
  have HBt := Lib.hid hbt
  clear hb2 hb2t hbt hok HA1 HG1 HB1 HBc
  go_wp2_with fail
  refine (trim_any ⟨t, (n : Int), s0, rs⟩ n A c _ _ rfl HCk.out hlc hc HA2.out HZ2.out).mono ?_
  rintro e w3 hret
  rcases hret with ⟨l, s, vg, vn, vr, hts, rfl, hvg, hvn, hvr, hb3⟩ | ⟨l, hfix, hneg, rfl, hb3⟩
  · have HB3 := Lib.hid (bthen HB2.out hb3 HB2.out.size)
    have hT3 := HT2.out.2.below hb3 HT2.out.2.lt
    have HTS := Lib.hid hts
    obtain ⟨sg, rfl, _, _, _, hsg⟩ := hvg.gram
    obtain ⟨Ag, cg, rfl, _⟩ := hsg.slice
    obtain ⟨Ar, cr, rfl, hr1, hr2, _⟩ := hvr.form
    obtain ⟨An, cn, rfl, _⟩ := hvn.form
    have HR3 := Lib.hid hvr
    have HT3 := Lib.hid hT3
    have hz3 : w2.heap.size < w3.heap.size := hT3.lt
    have HBt3 := Lib.hid (HBt.out.trans (hb3.mono (by simp)))
    have hwl := whereFrom_len (stayB l s) 0 rs
    have HIn := Lib.hid (fun i q hq hp => by have := whereFrom_in (stayB l s) rs 0 i q hq hp; simpa using this : ∀ (i : Nat) (q : Rule), rs[i]? = some q → stayB l s q = true → (i : Int) ∈ whereFrom (stayB l s) 0 rs)
    have hrl : rs.length ≤ 32 := HV.out.len
    have HST := Lib.hid (fun (tr : Tree) (hv : vt ⟨t, (n : Int), s0, rs⟩ tr ⟨false, s0⟩) => vt_stay HTS.out.lens HTS.out.reach HTS.out.rules (whereFrom (stayB l s) 0 rs) HIn.out tr ⟨false, s0⟩ hv (fun _ => HTS.out.reach.start))
    dsimp only at *
    generalize whereFrom (stayB l s) 0 rs = nums at *
    obtain ⟨w4, hw4⟩ : ∃ w4 : World, w4 = (w3.alloc (.cells #[.int .i64 (trimG ⟨t, (n : Int), s0, rs⟩ l s).terms, .int .i64 (trimG ⟨t, (n : Int), s0, rs⟩ l s).nons, .int .i64 (trimG ⟨t, (n : Int), s0, rs⟩ l s).start, .slice Ag (trimG ⟨t, (n : Int), s0, rs⟩ l s).rules.length cg] 38)).alloc (.cells #[.slice Ar nums.length cr] 39) := ⟨_, rfl⟩
    generalize trimG ⟨t, (n : Int), s0, rs⟩ l s = h at *
    have hb4 : Below w3.heap.size w3 w4 := by rw [hw4]; exact ((Below.refl _ _).alloc (Nat.le_refl _) _).alloc (by simp) _
    have HRB : Hid (Blk' w4 (w3.heap.size + 1) 39 #[.slice Ar nums.length cr]) := Lib.hid (by rw [hw4]; exact Blk'.new' _ _ _ (by simp))
    have HW4 := Lib.hid hw4
    have HB4 := Lib.hid (bthen HB3.out hb4 HB3.out.size)
    have HT4 := Lib.hid (HT3.out.below hb4 HT3.out.lt)
    have HBt4 := Lib.hid (bthen HBt3.out hb4 (by omega))
    have HR4 := Lib.hid (HR3.out.below hb4 (Nat.le_refl _))
    clear hts hvg hsg hvn hvr hb3 hT3 hb4 hw4 HB3 HT3 HBt3 HR3 g0 g1 g2 g3 HA2 HB2
    go_wp2_with fail
    rw [← HW4.out]
    refine (works_any _).mono ?_
    rintro e w5 ⟨rfl, hb5⟩
    have HB5 := Lib.hid (bthen HB4.out hb5 HB4.out.size)
    have hT5 := HT4.out.below hb5 HT4.out.lt
    have HT5 := Lib.hid hT5
    have HRB5 := Lib.hid (HRB.out.below hb5 HRB.out.lt)
    have HBt5 := Lib.hid (bthen HBt4.out hb5 (by have := HT4.out.lt; omega))
    have HR5 := Lib.hid (HR4.out.below hb5 (Nat.le_refl _))
    have hz5 : w3.heap.size + 1 < w5.heap.size := HRB5.out.lt
    clear hb5 HB4 HT4 HRB HBt4 HR4 HW4
    cases ok
    · go_wp2
      go_ret
      exact ⟨rfl, HB5.out⟩
    · obtain ⟨tr, hvt, hvl, hyl⟩ := HT2.out.1 rfl
      obtain ⟨sv, hsv, hr6, ht6, hks⟩ := hvl.tree
      obtain ⟨KA, kc, rfl, hk1, hk2, hKA⟩ := hks.slice
      injection hsv with hsv
      simp at hsv
      obtain ⟨e1, e2, e3, e4, e5⟩ := hsv
      subst e1; subst e2; subst e3; subst e4; subst e5
      have t0 : w5.cell? ⟨w2.heap.size, 0, none⟩ = some (.int .i64 tr.rule) := hT5.cell 0
      have t1 : w5.cell? ⟨w2.heap.size, 1, none⟩ = some (.int .i64 tr.term) := hT5.cell 1
      have t2 : w5.cell? ⟨w2.heap.size, 2, none⟩ = some (.slice TA tr.kids.length tc) := hT5.cell 2
      have hba6 : Below w5.heap.size w5 (w5.alloc (.cells #[.func (.func 28) #[] #[.pointer (some ⟨w3.heap.size + 1, 0, none⟩), .pointer (some ⟨w5.heap.size, 0, none⟩)]] 63)) := (Below.refl _ _).alloc (Nat.le_refl _) _
      have HB6 := Lib.hid (bthen HB5.out hba6 HB5.out.size)
      have HKA := Lib.hid ((hKA.keep (S' := fun b => b < w2.heap.size) (fun _ _ _ => rfl) (fun b hb => hb.2)).below (bthen HBt5.out hba6 (by omega)))
      have HAll : Hid (AllS (fun b => b < w5.heap.size) (w3.heap.size + 1) w5.heap.size nums (w5.alloc (.cells #[.func (.func 28) #[] #[.pointer (some ⟨w3.heap.size + 1, 0, none⟩), .pointer (some ⟨w5.heap.size, 0, none⟩)]] 63))) := Lib.hid (by
        have hv := (HR5.out.vl.els).2.2.2
        exact ⟨Ar, cr, HRB5.out.alloc _, hr1, hr2, (hv.keep (S' := fun b => b < w5.heap.size) (fun _ _ _ => rfl) (fun b hb => hb.2)).below hba6, Blk'.new _ _ _⟩)
      have HE := Lib.hid (HST.out tr hvt)
      have hz2w : w2.heap.size < w5.heap.size := by omega
      clear hvt hvl hyl hks hKA hba6 hT5 HST HTS HIn HR5
      go_wp2_with fail
      refine (stayAll_any (fun b => b < w5.heap.size) (w3.heap.size + 1) w5.heap.size nums (by omega) _ tr TA tc _ hr6 ht6 hk1 hk2 HKA.out HAll.out).mono ?_
      rintro e w7 ⟨rfl, hb7⟩
      rw [HE.out]
      have HB7 := Lib.hid (bthen HB6.out hb7 HB6.out.size)
      clear hb7
      go_wp2
      go_ret
      exact ⟨rfl, HB7.out⟩
  · have HB3 := Lib.hid (bthen HB2.out hb3 HB2.out.size)
    have hok : ok = false := by
      cases ok
      · rfl
      · obtain ⟨tr, hvt, _⟩ := HT2.out.1 rfl
        have := vt_len hfix (HV.out.rulesIn rfl) tr ⟨false, s0⟩ hvt rfl
        dsimp only at this hneg
        omega
    subst hok
    obtain ⟨w4, hw4⟩ : ∃ w4 : World, w4 = (w3.alloc (.cells #[.int .i64 0, .int .i64 0, .int .i64 0, .slice none 0 0] 38)).alloc (.cells #[.slice none 0 0] 39) := ⟨_, rfl⟩
    have HB4 : Hid (Below w.heap.size w w4) := Lib.hid (by rw [hw4]; exact (HB3.out.alloc HB3.out.size _).alloc (by have := HB3.out.size; simp; omega) _)
    have HW4 := Lib.hid hw4
    clear hfix hneg hb3 hw4 g0 g1 g2 g3
    go_wp2_with fail
    rw [← HW4.out]
    refine (works_any _).mono ?_
    rintro e w5 ⟨rfl, hb5⟩
    have HB5 := Lib.hid (bthen HB4.out hb5 HB4.out.size)
    clear hb5
    go_wp2
    go_ret
    exact ⟨rfl, HB5.out⟩

theorem usefulTreesStay_row (raw ch : List Int) (v0 v1 : Value) (W : World) (h0 : Vl W (OldS W) raw v0) (h1 : Vl W (OldS W) ch v1) :
    Calls Try.prog 5 #[v0, v1] W fun e W' => e = .returned (.bool true) ∧ Below W.heap.size W W' := by
  obtain ⟨A, c, rfl, k1, k2, hA⟩ := h0.slice
  obtain ⟨B, d, rfl, k3, k4, hB⟩ := h1.slice
  exact usefulTreesStay_any A c raw B d ch (OldS W) W k1 k2 hA k3 k4 hB (fun b h => h)
end Go.Proofs.Ytlbhaegdcpacpaa
