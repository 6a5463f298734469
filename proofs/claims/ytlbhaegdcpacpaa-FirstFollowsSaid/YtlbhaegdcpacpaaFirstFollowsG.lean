/- Contract: the closure 'good' of FirstFollows. -/
import Derived.Test.YtlbhaegdcpacpaaFirstFollowsP
import Derived.Test.YtlbhaegdcpacpaaRowsM
import Derived.Test.YtlbhaegdcpacpaaYield
import Derived.Test.YtlbhaegdcpacpaaValid
import Derived.IntWalk
import Derived.BigQuiet
namespace Go.Proofs.Ytlbhaegdcpacpaa
open Go.RowKit
set_option linter.unusedVariables false

/-- What the closure has captured. -/
structure FFS (FB GB PB WB VB m n : Nat) (g : Gram) (A : Option Addr) (c : Nat) (S : Nat → Prop) (bf : Nat) (bs : List Nat) (cf : Nat) (fol : List (List Bool)) (Sp : Nat → Prop) (pre : List (List Bool)) (Ap : Option Addr) (cp : Nat) (Sw : Nat → Prop) (ws : List Int) (Aw : Option Addr) (cw : Nat) (w : World) : Prop where
  xf : Blk' w FB 50 #[.slice (some ⟨bf, 0, none⟩) n cf]
  xg : Blk' w GB 38 #[.int .i64 g.terms, .int .i64 g.nons, .int .i64 g.start, .slice A g.rules.length c]
  xp : Blk' w PB 50 #[.slice Ap pre.length cp]
  xw : Blk' w WB 39 #[.slice Aw ws.length cw]
  xv : Blk' w VB 55 #[.func (.func 26) #[] #[.pointer (some ⟨FB, 0, none⟩), .pointer (some ⟨GB, 0, none⟩), .pointer (some ⟨PB, 0, none⟩), .pointer (some ⟨WB, 0, none⟩), .pointer (some ⟨VB, 0, none⟩)]]
  eg : Els w S g.rules A
  ef : RowsM w bf bs (m + 1) n cf fol
  ep : Els w Sp pre Ap
  ew : Els w Sw ws Aw
section
variable {FB GB PB WB VB m n : Nat} {g : Gram} {A : Option Addr} {c : Nat} {S : Nat → Prop} {bf : Nat} {bs : List Nat} {cf : Nat} {fol : List (List Bool)} {Sp : Nat → Prop} {pre : List (List Bool)} {Ap : Option Addr} {cp : Nat} {Sw : Nat → Prop} {ws : List Int} {Aw : Option Addr} {cw : Nat} {w w' : World}
theorem FFS.below (h : FFS FB GB PB WB VB m n g A c S bf bs cf fol Sp pre Ap cp Sw ws Aw cw w) (hb : Below w.heap.size w w') : FFS FB GB PB WB VB m n g A c S bf bs cf fol Sp pre Ap cp Sw ws Aw cw w' :=
  ⟨h.xf.below hb h.xf.lt, h.xg.below hb h.xg.lt, h.xp.below hb h.xp.lt, h.xw.below hb h.xw.lt, h.xv.below hb h.xv.lt, h.eg.below hb, h.ef.below hb, h.ep.below hb, h.ew.below hb⟩
theorem els_int2 {i j : Nat} {x y : Int} (h : Els w Sw ws Aw) (hi : ws[i]? = some x) (hj : ws[j]? = some y) : ∃ b o, Aw = some ⟨b, o, none⟩ ∧ b < w.heap.size ∧ w.cell? ⟨b, o + i, none⟩ = some (.int .i64 x) ∧ w.cell? ⟨b, o + j, none⟩ = some (.int .i64 y) := by
  obtain ⟨b, o, e1, _, h1, _, h2⟩ := h.int hi
  obtain ⟨b', o', e2, _, _, _, h3⟩ := h.int hj
  rw [e1] at e2
  injection e2 with e2
  injection e2 with e3 e4
  subst e3; subst e4
  exact ⟨b, o, e1, h1, h2, h3⟩
theorem goodPs_step {ks : List Tree} {i at_ : Nat} {x : Tree} (hx : ks[i]? = some x) (h : goodPs g m fol pre ws (ks.drop i) at_) : goodP g m fol pre ws x at_ ∧ goodPs g m fol pre ws (ks.drop (i + 1)) (at_ + (yieldT x).length) := by
  have hd : ks.drop i = x :: ks.drop (i + 1) := by
    obtain ⟨hlt, rfl⟩ := List.getElem?_eq_some_iff.1 hx
    exact List.drop_eq_getElem_cons hlt
  rw [hd, goodPs] at h
  exact h
end

set_option maxRecDepth 100000 in
set_option maxHeartbeats 1000000 in
theorem good1_any (FB GB PB WB VB m n : Nat) (g : Gram) (A : Option Addr) (c : Nat) (S : Nat → Prop) (bf : Nat) (bs : List Nat) (cf : Nat) (fol : List (List Bool)) (Sp : Nat → Prop) (pre : List (List Bool)) (Ap : Option Addr) (cp : Nat) (Sw : Nat → Prop) (ws : List Int) (Aw : Option Addr) (cw : Nat) (St : Nat → Prop)
    (hv : ∀ q ∈ g.rules, 0 ≤ q.left ∧ q.left < (n : Int)) (hrl : g.rules.length ≤ 32) (hpl : pre.length ≤ 32) (hm : m ≤ 8) (hwl : ws.length ≤ 1000001) :
    ∀ (t : Tree) (KA : Option Addr) (kc : Nat) (at_ : Nat) (w : World), I64 t.rule → I64 t.term → t.kids.length ≤ kc → kc ≤ 9223372036854775807 → Els w St t.kids KA → (∀ b, St b → b < w.heap.size) → FFS FB GB PB WB VB m n g A c S bf bs cf fol Sp pre Ap cp Sw ws Aw cw w → goodP g m fol pre ws t at_ → at_ + (yieldT t).length ≤ 1000000 →
    Calls Try.prog 26 #[.agg #[.int .i64 t.rule, .int .i64 t.term, .slice KA t.kids.length kc], .int .i64 at_, .pointer (some ⟨FB, 0, none⟩), .pointer (some ⟨GB, 0, none⟩), .pointer (some ⟨PB, 0, none⟩), .pointer (some ⟨WB, 0, none⟩), .pointer (some ⟨VB, 0, none⟩)] w
      fun e w' => e = .returned (.bool true) ∧ Below w.heap.size w w' := by
  refine Tree.ind ?_
  intro r t ks ih KA kc at_ w hr ht hlc hc hA hSt hst hgood hlen
  have IH := Lib.hid ih
  have HV := Lib.hid (And.intro hv hwl)
  dsimp only [Tree.rule, Tree.term, Tree.kids] at *
  have hba : Below w.heap.size w (w.alloc (.cells #[.int .i64 r, .int .i64 t, .slice KA ks.length kc] 27)) := (Below.refl _ _).alloc (Nat.le_refl _) _
  have HBa := Lib.hid hba
  have HSt := Lib.hid hSt
  have HI := Lib.hid (And.intro hr ht)
  clear ih hr ht hv hSt hwl
  by_cases h0 : r < 0
  · clear hst hA hba hgood hlen
    go_enter Try.func26, Try.ntmps26
    go_wp2
    go_ret
    exact ⟨rfl, HBa.out⟩
  · obtain ⟨rn, hrn⟩ : ∃ rn : Nat, r = (rn : Int) := ⟨r.toNat, by omega⟩
    subst hrn
    have E := Lib.hid (show yieldT ⟨(rn : Int), t, ks⟩ = yields ks by unfold yieldT; rw [if_neg h0])
    unfold goodP at hgood
    obtain ⟨⟨q, a, b, ce, ca, hq, ha, hb, hwe, hwa, hce0, hca0, hae, hba', hal, hbl⟩, hkids⟩ := hgood.resolve_left h0
    rw [Int.toNat_natCast] at hq hb
    have hqv := HV.out.1 q (List.mem_of_getElem? hq)
    have hrlt : rn < g.rules.length := (List.getElem?_eq_some_iff.1 hq).1
    have hplt : rn < pre.length := (List.getElem?_eq_some_iff.1 hb).1
    have hln : q.left.toNat < n := by omega
    obtain ⟨bq, oq, Aq, cq, eA, _, hbq, hqi, _, _, _, hc0, hc1⟩ := hst.eg.rule hq
    obtain ⟨bl, hbl'⟩ := get_some (show q.left.toNat < bs.length by rw [hst.ef.blen]; exact hln)
    have hrow := hst.ef.rows _ _ _ hbl' ha
    have hout : w.cell? ⟨bf, q.left.toNat, none⟩ = some (.slice (some ⟨bl, 0, none⟩) (m + 1) (m + 1)) := hst.ef.outer _ _ hbl'
    obtain ⟨bp, op, Ab, cb, eP, _, hbp, hb1, hb2, hEb, hp0⟩ := hst.ep.list hb
    obtain ⟨b2, o2, eB, _, hb2w, hb2c⟩ := hEb.bool hba'
    obtain ⟨b3, o3, eW, hb3w, hce, hca⟩ := els_int2 hst.ew hwe hwa
    have HS := Lib.hid hst
    have hce1 : ce.toNat < m + 1 := by rw [← hal]; exact (List.getElem?_eq_some_iff.1 hae).1
    have hca1 : ca.toNat < m + 1 := by rw [← hbl]; exact (List.getElem?_eq_some_iff.1 hba').1
    have hcl : w.cell? ⟨bl, ce.toNat, none⟩ = some (.bool true) := (hrow.1.cell _).trans (bcells_get hae)
    have hblw := hrow.1.lt
    have hbfw := hst.ef.bflt
    have f0 : w.cell? ⟨FB, 0, none⟩ = some (.slice (some ⟨bf, 0, none⟩) n cf) := hst.xf.cell 0
    have g3 : w.cell? ⟨GB, 3, none⟩ = some (.slice A g.rules.length c) := hst.xg.cell 3
    have p0 : w.cell? ⟨PB, 0, none⟩ = some (.slice Ap pre.length cp) := hst.xp.cell 0
    have zF := hst.xf.lt
    have zG := hst.xg.lt
    have zP := hst.xp.lt
    obtain ⟨L, hL⟩ : ∃ L : Nat, L = (yields ks).length := ⟨_, rfl⟩
    obtain ⟨en, hen⟩ : ∃ en : Nat, en = at_ + L := ⟨_, rfl⟩
    rw [E.out, ← hL] at hlen
    rw [← hL, ← hen] at hwe
    rw [← hL, ← hen] at hce
    have hwen : en < ws.length := (List.getElem?_eq_some_iff.1 hwe).1
    have hwat : at_ < ws.length := (List.getElem?_eq_some_iff.1 hwa).1
    have HN := Lib.hid (And.intro hL (And.intro hen (And.intro hlen hkids)))
    have HA := Lib.hid (hA.below hba)
    obtain ⟨ql, qr⟩ := q
    dsimp only at hqv hln hc0 hout hbl' ha hrow
    obtain ⟨hq0, hq1⟩ := hqv
    subst eA; subst eP; subst eB; subst eW
    rw [hbl] at hp0
    have HT := Lib.hid (Blk'.new w 27 #[.int .i64 (rn : Int), .int .i64 t, .slice KA ks.length kc])
    have HC := Lib.hid (And.intro hce (And.intro hca (And.intro hcl (And.intro hb2c (And.intro (And.intro hb3w hb2w) (And.intro hblw (And.intro hce1 (And.intro hca1 (And.intro hwen hwat)))))))))
    have HCz := Lib.hid (And.intro hce0 hca0)
    clear hst hA hba hgood hkids hq ha hb hwe hwa hae hba' hal hbl hqi hc1 hrow hbl' hb1 hb2 hEb hL hce hca hcl hb2c hb3w hb2w hblw hce1 hca1 hwen hwat hce0 hca0 hlen hen h0
    have hrn0 : (0 : Int) ≤ (rn : Int) := by omega
    have hrn1 : (rn : Int) < (g.rules.length : Int) := by omega
    have hrn2 : (rn : Int) < (pre.length : Int) := by omega
    go_enter Try.func26, Try.ntmps26
    go_wp2_with fail
    go_quiet (fail)
    clear f0 g3 p0 hc0 hp0 hout
    go_wp2_with fail
    refine (yield_any ⟨(rn : Int), t, ks⟩ KA kc St _ (fun b hb => by have := HSt.out b hb; simp; omega) HI.out.1 HI.out.2 hlc hc (HA.out.below (bdrewN (Below.refl _ _))) (by have h := HN.out.2.2.1; rw [E.out, ← HN.out.1]; omega)).mono ?_
    rintro e w1 ⟨v, rfl, hown, hb1⟩
    obtain ⟨VA, vc, rfl, _, _, _⟩ := hown.form
    rw [show (yieldT ⟨(rn : Int), t, ks⟩).length = L by rw [E.out, HN.out.1]]
    have hb1 := bundrewN hb1
    have hb1' : Below w.heap.size w w1 := bthen HBa.out hb1 (by simp)
    have HB1 := Lib.hid hb1'
    have HS1 := Lib.hid (HS.out.below hb1')
    have HT1 := Lib.hid (HT.out.below hb1 (by simp))
    have HA1 := Lib.hid (HA.out.below hb1)
    have w0 : w1.cell? ⟨WB, 0, none⟩ = some (.slice (some ⟨b3, o3, none⟩) ws.length cw) := HS1.out.xw.cell 0
    have c1 : w1.cell? ⟨b3, o3 + en, none⟩ = some (.int .i64 ce) := (hb1'.cell (p := ⟨b3, _, none⟩) HC.out.2.2.2.2.1.1).trans HC.out.1
    have c2 : w1.cell? ⟨b3, o3 + at_, none⟩ = some (.int .i64 ca) := (hb1'.cell (p := ⟨b3, _, none⟩) HC.out.2.2.2.2.1.1).trans HC.out.2.1
    have c3 : w1.cell? ⟨bl, ce.toNat, none⟩ = some (.bool true) := (hb1'.cell (p := ⟨bl, _, none⟩) HC.out.2.2.2.2.2.1).trans HC.out.2.2.1
    have c4 : w1.cell? ⟨b2, o2 + ca.toNat, none⟩ = some (.bool true) := (hb1'.cell (p := ⟨b2, _, none⟩) HC.out.2.2.2.2.1.2).trans HC.out.2.2.2.1
    obtain ⟨hx1, hx2, hx3, hx4⟩ := HC.out.2.2.2.2.2.2
    obtain ⟨hx5, hx6⟩ := HCz.out
    have hwm : IntKind.i64.wrap ((at_ : Int) + (L : Int)) = (en : Int) := by rw [IntWalk.i64_in _ (by have := HN.out.2.2.1; omega)]; have := HN.out.2.1; omega
    have hx7 : ce < (m : Int) + 1 := by omega
    have hx8 : ca < (m : Int) + 1 := by omega
    have hx9 : (en : Int) < (ws.length : Int) := by omega
    have hxa : (at_ : Int) < (ws.length : Int) := by omega
    have d1 : decide (ws.length ≤ en) = false := decide_eq_false (by omega)
    obtain ⟨mx, hmx⟩ : ∃ mx : Int, (if ce < ca then ca else ce) = mx := ⟨_, rfl⟩
    have d2 : decide ((m : Int) + 1 ≤ mx) = false := decide_eq_false (by rw [← hmx]; split <;> omega)
    clear hb1 hb1' hown
    go_wp2_with fail
    go_quiet (fail)
    clear w0 c1 c2 c3 c4 hwm d1 d2 hmx hx1 hx2 hx3 hx4 hx5 hx6 hx7 hx8 hx9 hxa
    have t2 : w1.cell? ⟨w.heap.size, 2, none⟩ = some (.slice KA ks.length kc) := HT1.out.cell 2
    have HW1 : Hid (w.heap.size ≤ w1.heap.size) := Lib.hid HB1.out.size
    go_wp2_with fail
    go_loopw [82, 1] (fun i x wr => ∃ k : Nat, k ≤ ks.length ∧ i = .int .i64 k ∧ x = .int .i64 ((at_ + (yields (ks.take k)).length : Nat) : Int) ∧ goodPs g m fol pre ws (ks.drop k) (at_ + (yields (ks.take k)).length) ∧ FFS FB GB PB WB VB m n g (some ⟨bq, oq, none⟩) c S bf bs cf fol Sp pre (some ⟨bp, op, none⟩) cp Sw ws (some ⟨b3, o3, none⟩) cw wr ∧ Els wr St ks KA ∧ Below w.heap.size w wr) (fun i _ _ => ks.length - (intOf i).toNat)
    case atStart => exact ⟨0, Nat.zero_le _, rfl, by simp [yields], by simpa [yields] using HN.out.2.2.2, HS1.out.below (bdrewN (Below.refl _ _)), HA1.out.below (bdrewN (Below.refl _ _)), bdrewN HB1.out⟩
    case round =>
      obtain ⟨wo, hwo⟩ : ∃ wo : World, wo = wr := ⟨_, rfl⟩
      subst hwo
      obtain ⟨k, hk, rfl, rfl, hgk, hS2, hA2, hB2⟩ := hrel
      have HG2 := Lib.hid hgk
      have HS2 := Lib.hid hS2
      have HA2 := Lib.hid hA2
      have HB2 := Lib.hid hB2
      clear t2
      by_cases hlt : k < ks.length
      · obtain ⟨x, hx⟩ := get_some hlt
        obtain ⟨b, o, Ax, cx, eK, hSb, hbs, hi, hi2, hx1, hx2, hEx, hc0, hc1, hc2⟩ := hA2.tree hx
        subst eK
        have hm0 : (0 : Int) ≤ (k : Int) := by omega
        have HM := Lib.hid (List.mem_of_getElem? hx)
        have HE := Lib.hid (yields_take hx)
        have HGs := Lib.hid (goodPs_step hx hgk)
        have hbo : Below wo.heap.size wo (wo.alloc (.cells #[.int .i64 x.rule, .int .i64 x.term, .slice Ax x.kids.length cx] 27)) := (Below.refl _ _).alloc (Nat.le_refl _) _
        have HS3 := Lib.hid (hS2.below hbo)
        have HEx := Lib.hid (hEx.below hbo)
        have HA3 := Lib.hid (hA2.below hbo)
        have HB3 := Lib.hid (bthen hB2 hbo hB2.size)
        have HX3 := Lib.hid (Blk'.new wo 27 #[.int .i64 x.rule, .int .i64 x.term, .slice Ax x.kids.length cx])
        have HI2 := Lib.hid (And.intro hi hi2)
        obtain ⟨at2, hat2⟩ : ∃ at2 : Nat, at2 = at_ + (yields (ks.take k)).length := ⟨_, rfl⟩
        have hl2 : at2 + (yieldT x).length ≤ 1000000 := by
          have h := HN.out.2.2.1
          rw [HN.out.1, yields_drop ks (k + 1), HE.out] at h
          simp only [List.length_append] at h
          omega
        have HSz : Hid (∀ b, St b → b < (wo.alloc (.cells #[.int .i64 x.rule, .int .i64 x.term, .slice Ax x.kids.length cx] 27)).heap.size) := Lib.hid (fun b hb => by have := HSt.out b hb; have := HB3.out.size; omega)
        have HL2 := Lib.hid hl2
        rw [← hat2] at HGs
        rw [← hat2]
        have HAt := Lib.hid hat2
        have gv : wo.cell? ⟨VB, 0, none⟩ = some (.func (.func 26) #[] #[.pointer (some ⟨FB, 0, none⟩), .pointer (some ⟨GB, 0, none⟩), .pointer (some ⟨PB, 0, none⟩), .pointer (some ⟨WB, 0, none⟩), .pointer (some ⟨VB, 0, none⟩)]) := hS2.xv.cell 0
        have hV : VB < wo.heap.size := hS2.xv.lt
        clear hgk hS2 hA2 hB2 hx hEx hbo hi hi2 hl2 hat2 HG2
        go_wp2_with fail
        refine (IH.out x HM.out Ax cx at2 _ HI2.out.1 HI2.out.2 hx1 hx2 HEx.out HSz.out HS3.out HGs.out.1 HL2.out).mono ?_
        rintro e w4 ⟨rfl, hb4⟩
        have HB4 := Lib.hid (bthen HB3.out hb4 HB3.out.size)
        have HS4 := Lib.hid (HS3.out.below hb4)
        have HEx4 := Lib.hid (HEx.out.below hb4)
        have HA4 := Lib.hid (HA3.out.below hb4)
        have hX4 := HX3.out.below hb4 (by simp)
        have n0 : w4.cell? ⟨wo.heap.size, 0, none⟩ = some (.int .i64 x.rule) := hX4.cell 0
        have n1 : w4.cell? ⟨wo.heap.size, 1, none⟩ = some (.int .i64 x.term) := hX4.cell 1
        have n2 : w4.cell? ⟨wo.heap.size, 2, none⟩ = some (.slice Ax x.kids.length cx) := hX4.cell 2
        have zX : wo.heap.size < w4.heap.size := hX4.lt
        clear hb4 hX4 gv hc0 hc1 hc2
        go_wp2_with fail
        refine (yield_any x Ax cx St _ (fun b hb => by have := HSt.out b hb; have := HB4.out.size; omega) HI2.out.1 HI2.out.2 hx1 hx2 HEx4.out (by have := HL2.out; omega)).mono ?_
        rintro e w5 ⟨v, rfl, hown, hb5⟩
        obtain ⟨VA2, vc2, rfl, _, _, _⟩ := hown.form
        have H5 := Lib.hid (And.intro (HS4.out.below hb5) (And.intro (HA4.out.below hb5) (bthen HB4.out hb5 HB4.out.size)))
        have hwm : IntKind.i64.wrap ((at2 : Int) + ((yieldT x).length : Int)) = ((at2 + (yieldT x).length : Nat) : Int) := by rw [IntWalk.i64_in _ (by have := HL2.out; omega)]; omega
        clear hown hb5 n0 n1 n2
        go_wp2
        go_roundw
        case rel =>
          refine ⟨k + 1, hlt, by go_num, ?_, ?_, H5.out.1, H5.out.2.1, H5.out.2.2⟩
          · rw [HE.out, List.length_append, ← Nat.add_assoc, ← HAt.out]; first | rfl | simp
          · rw [HE.out, List.length_append, ← Nat.add_assoc, ← HAt.out]; exact HGs.out.2
        case measure => simp [intOf]; omega
      · go_wp2
        go_ret
        exact ⟨rfl, HB2.out⟩
end Go.Proofs.Ytlbhaegdcpacpaa
