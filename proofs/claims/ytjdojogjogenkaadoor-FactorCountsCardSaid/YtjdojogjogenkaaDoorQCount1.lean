/- Contract: core.Count$1, the visit of a forest's node. -/
import Derived.Test.YtjdojogjogenkaaDoorQp2
import Derived.Test.YtjdojogjogenkaaDoorQp1
import Derived.Deep.DeepCutAuto
namespace Go.Proofs.YtjdojogjogenkaaDoor
open Go.RowKit
set_option linter.unusedVariables false
structure CtS (SB FB CB VB gS gC : Nat) (F : List FNode) (A : Option Addr) (c : Nat) (root : Int) (Sf : Nat → Prop) (st cn : List Int) (w : World) : Prop where
 sb : Blk' w SB 33 #[.slice (some ⟨gS, 0, none⟩) F.length F.length]
 fb : Blk' w FB 104 #[.slice A F.length c, .int .i64 root]
 cb : Blk' w CB 33 #[.slice (some ⟨gC, 0, none⟩) F.length F.length]
 vb : Blk' w VB 150 #[.func (.func 97) #[] #[.pointer (some ⟨SB, 0, none⟩), .pointer (some ⟨FB, 0, none⟩), .pointer (some ⟨CB, 0, none⟩), .pointer (some ⟨VB, 0, none⟩)]]
 sr : Blk' w gS 3 (icells st)
 cr : Blk' w gC 3 (icells cn)
 els : Els w Sf F A
 far : ∀ b, (b = SB ∨ b = FB ∨ b = CB ∨ b = VB ∨ Sf b) → ¬ (b = gS ∨ b = gC)
 ne : gS ≠ gC
section
variable {SB FB CB VB gS gC : Nat} {F : List FNode} {A : Option Addr} {c : Nat} {root : Int} {Sf : Nat → Prop} {st cn st' cn' : List Int} {w w' : World}
theorem CtS.to (h : CtS SB FB CB VB gS gC F A c root Sf st cn w) (k : Kept (fun b => b = gS ∨ b = gC) w w') (h1 : Blk' w' gS 3 (icells st')) (h2 : Blk' w' gC 3 (icells cn')) : CtS SB FB CB VB gS gC F A c root Sf st' cn' w' :=
 ⟨h.sb.kept k (h.far _ (.inl rfl)), h.fb.kept k (h.far _ (.inr (.inl rfl))), h.cb.kept k (h.far _ (.inr (.inr (.inl rfl)))), h.vb.kept k (h.far _ (.inr (.inr (.inr (.inl rfl))))), h1, h2, h.els.kept k (fun b hb => h.far b (.inr (.inr (.inr (.inr hb))))), h.far, h.ne⟩
theorem CtS.below (h : CtS SB FB CB VB gS gC F A c root Sf st cn w) (k : Below w.heap.size w w') : CtS SB FB CB VB gS gC F A c root Sf st cn w' :=
 h.to (Kept.of_below _ k) (h.sr.below k h.sr.lt) (h.cr.below k h.cr.lt)
theorem CtS.setS (h : CtS SB FB CB VB gS gC F A c root Sf st cn w) (v : Nat) (x : Int) : CtS SB FB CB VB gS gC F A c root Sf (st.set v x) cn (w.setCell ⟨gS, v, none⟩ (.int .i64 x)) ∧ Kept (fun b => b = gS ∨ b = gC) w (w.setCell ⟨gS, v, none⟩ (.int .i64 x)) := by
 have k := (Kept.refl (fun b => b = gS ∨ b = gC) w).setCell (p := ⟨gS, v, none⟩) (.inl (.inl rfl)) (.int .i64 x)
 refine ⟨h.to k (by rw [← icells_set]; exact h.sr.set_ v _) (h.cr.far (p := ⟨gS, v, none⟩) (fun e => h.ne e.symm) _), k⟩
theorem CtS.setC (h : CtS SB FB CB VB gS gC F A c root Sf st cn w) (v : Nat) (x : Int) : CtS SB FB CB VB gS gC F A c root Sf st (cn.set v x) (w.setCell ⟨gC, v, none⟩ (.int .i64 x)) ∧ Kept (fun b => b = gS ∨ b = gC) w (w.setCell ⟨gC, v, none⟩ (.int .i64 x)) := by
 have k := (Kept.refl (fun b => b = gS ∨ b = gC) w).setCell (p := ⟨gC, v, none⟩) (.inl (.inr rfl)) (.int .i64 x)
 refine ⟨h.to k (h.sr.far (p := ⟨gC, v, none⟩) (fun e => h.ne e) _) (by rw [← icells_set]; exact h.cr.set_ v _), k⟩
theorem CtS.stc (h : CtS SB FB CB VB gS gC F A c root Sf st cn w) {v : Nat} (hv : v < st.length) : w.cell? ⟨gS, v, none⟩ = some (.int .i64 (gd st v)) := (h.sr.cell v).trans (icells_get (gd_some hv))
theorem CtS.cnc (h : CtS SB FB CB VB gS gC F A c root Sf st cn w) {v : Nat} (hv : v < cn.length) : w.cell? ⟨gC, v, none⟩ = some (.int .i64 (gd cn v)) := (h.cr.cell v).trans (icells_get (gd_some hv))
end
def RetV (SB FB CB VB gS gC : Nat) (F : List FNode) (A : Option Addr) (c : Nat) (root : Int) (Sf : Nat → Prop) (st cn : List Int) (v : Nat) (w : World) (e : Ending) (w' : World) : Prop :=
 (e = .returned (.bool true) ∧ ∃ st' cn', Mv F st cn st' cn' ∧ gd st' v = 2 ∧ CtS SB FB CB VB gS gC F A c root Sf st' cn' w' ∧ Kept (fun b => b = gS ∨ b = gC) w w') ∨ (e = .returned (.bool false) ∧ CycAt F v ∧ Kept (fun b => b = gS ∨ b = gC) w w')
set_option maxRecDepth 100000 in
set_option maxHeartbeats 8000000 in
theorem count1_any (SB FB CB VB gS gC : Nat) (F : List FNode) (A : Option Addr) (c : Nat) (root : Int) (Sf : Nat → Prop) (hN : F.length ≤ 1000000)
  (hkl : ∀ nd ∈ F, nd.packs.length ≤ 100000000 ∧ ∀ p ∈ nd.packs, p.kids.length ≤ 1000 ∧ ∀ k ∈ p.kids, 0 ≤ k ∧ k.toNat < F.length) :
  ∀ (N : Nat) (st cn : List Int) (v : Nat) (w : World), zeros st = N → StI F st cn → v < F.length → (∀ u, u < F.length → gd st u = 1 → RchF F u v) → CtS SB FB CB VB gS gC F A c root Sf st cn w →
   Calls Tryd.prog 97 #[.int .i64 (v : Int), .pointer (some ⟨SB, 0, none⟩), .pointer (some ⟨FB, 0, none⟩), .pointer (some ⟨CB, 0, none⟩), .pointer (some ⟨VB, 0, none⟩)] w (RetV SB FB CB VB gS gC F A c root Sf st cn v w) := by
 intro N
 induction N using Nat.strongRecOn with
 | _ N ih =>
 intro st cn v w hz hst hv hpath hC
 have HIH := Lib.hid ih
 have HSt := Lib.hid hst
 have HPa := Lib.hid hpath
 have HC := Lib.hid hC
 have HZ := Lib.hid hz
 have HKl := Lib.hid hkl
 have hsl := hst.sl
 have hcl := hst.cl
 have hv0 : (0 : Int) ≤ (v : Int) := by omega
 have hv9 : (v : Int) < (F.length : Int) := by omega
 have hat := hst.at_ v hv
 have s0 : w.cell? ⟨SB, 0, none⟩ = some (.slice (some ⟨gS, 0, none⟩) F.length F.length) := hC.sb.cell 0
 have zS : SB < w.heap.size := hC.sb.lt
 have sv : w.cell? ⟨gS, v, none⟩ = some (.int .i64 (gd st v)) := hC.stc (by omega)
 have zg : gS < w.heap.size := hC.sr.lt
 obtain ⟨x, hx⟩ : ∃ x, x = gd st v := ⟨_, rfl⟩
 rw [← hx] at sv hat
 have HX := Lib.hid hx
 have HLen := Lib.hid (And.intro hsl hcl)
 clear ih hst hpath hC hz hx hsl hcl hkl
 by_cases h0 : x = 0
 rotate_left
 ·have h12 : x = 1 ∨ x = 2 := by
   rcases hat.1 with h | h | h
   ·exact absurd h.1 h0
   ·exact .inl h
   ·exact .inr h.1
  clear hat h0
  rcases h12 with h | h
  ·subst h
   have HCy : Hid (CycAt F v) := Lib.hid ⟨v, .inl rfl, HPa.out v hv HX.out.symm⟩
   go_enter Tryd.func97, Tryd.ntmps97
   go_wp2
   go_ret
   exact .inr ⟨rfl, HCy.out, Kept.refl _ _⟩
  ·subst h
   go_enter Tryd.func97, Tryd.ntmps97
   go_wp2
   go_ret
   exact .inl ⟨rfl, st, cn, Mv.refl HSt.out, HX.out.symm, HC.out, Kept.refl _ _⟩
 ·subst h0
  obtain ⟨nd, hnd⟩ := get_some hv
  have hndm := List.mem_of_getElem? hnd
  obtain ⟨hC1, hk1⟩ := HC.out.setS v 1
  have fS := HC.out.sr.frozen v
  obtain ⟨w1, hw1⟩ : ∃ w1 : World, w1 = w.setCell ⟨gS, v, none⟩ (.int .i64 1) := ⟨_, rfl⟩
  rw [← hw1] at hC1 hk1
  obtain ⟨bn, on, Ap, cp, eA, hSn, hbn, i1, i2, i3, hpl, hpc, hEp, n0, n1, n2, n3, n4⟩ := hC1.els.fnode hnd
  have HND := Lib.hid (And.intro hnd hndm)
  have HI := Lib.hid (And.intro i1 (And.intro i2 (And.intro i3 (And.intro hpl hpc))))
  have hpl6 : nd.packs.length ≤ 100000000 := (HKl.out nd hndm).1
  obtain ⟨NB, hNB⟩ : ∃ b, b = w1.heap.size := ⟨_, rfl⟩
  obtain ⟨w2, hw2⟩ : ∃ w2 : World, w2 = w1.alloc (.cells #[.bool nd.sym.term, .int .i64 nd.sym.n, .int .i64 nd.fr, .int .i64 nd.to, .slice Ap nd.packs.length cp] 153) := ⟨_, rfl⟩
  have hb2 : Below w1.heap.size w1 w2 := by rw [hw2]; exact (Below.refl _ _).alloc (Nat.le_refl _) _
  have HNB2 : Hid (Blk' w2 NB 153 #[.bool nd.sym.term, .int .i64 nd.sym.n, .int .i64 nd.fr, .int .i64 nd.to, .slice Ap nd.packs.length cp]) := Lib.hid (by rw [hw2, hNB]; exact Blk'.new _ _ _)
  have HC2 := Lib.hid (hC1.below hb2)
  have HK2 := Lib.hid (hk1.below hb2)
  have HEp2 := Lib.hid (hEp.below hb2)
  have HNz : Hid (¬ (NB = gS ∨ NB = gC) ∧ NB = w1.heap.size) := Lib.hid ⟨fun h => by have h1 := hC1.sr.lt; have h2 := hC1.cr.lt; omega, hNB⟩
  have HW1 := Lib.hid hw1
  have HW2 := Lib.hid hw2
  have f0 : w1.cell? ⟨FB, 0, none⟩ = some (.slice A F.length c) := hC1.fb.cell 0
  have zF : FB < w1.heap.size := hC1.fb.lt
  subst eA
  clear hC1 hk1 hb2 hw1 hw2 i1 i2 i3 hpl hpc hEp hnd hndm hat
  go_enter Tryd.func97, Tryd.ntmps97
  go_upto_region 4 with (fail)
  rw [← HW1.out]
  go_upto_region 5 with (fail)
  rw [← HW2.out, ← hNB]
  clear n0 n1 n2 n3 n4 hbn hSn f0 zF s0 zS sv zg fS hNB HW1 HW2
  have t0 : w2.cell? ⟨NB, 0, none⟩ = some (.bool nd.sym.term) := HNB2.out.cell 0
  have zN : NB < w2.heap.size := HNB2.out.lt
  have HIn := Lib.hid (InV.begin HSt.out hv HX.out.symm nd.sym.term)
  go_upto_if 33 with (fail)
  go_cut [] (fun wx => CtS SB FB CB VB gS gC F (some ⟨bn, on, none⟩) c root Sf (st.set v 1) (if nd.sym.term then cn.set v 1 else cn) wx ∧ Kept (fun b => b = gS ∨ b = gC) w2 wx)
  case first =>
   cases htm : nd.sym.term with
   | true =>
    rw [htm] at t0
    have c0 : w2.cell? ⟨CB, 0, none⟩ = some (.slice (some ⟨gC, 0, none⟩) F.length F.length) := HC2.out.cb.cell 0
    have zC : CB < w2.heap.size := HC2.out.cb.lt
    have cv : w2.cell? ⟨gC, v, none⟩ = some (.int .i64 (gd cn v)) := HC2.out.cnc (by have := HLen.out.2; omega)
    have zgC : gC < w2.heap.size := HC2.out.cr.lt
    have fC := HC2.out.cr.frozen v
    go_wp2
    go_meet
    rw [if_pos htm]
    exact HC2.out.setC v 1
   | false =>
    rw [htm] at t0
    go_wp2
    go_meet
    rw [if_neg (by rw [htm]; simp)]
    exact ⟨HC2.out, Kept.refl _ _⟩
  case rest =>
  obtain ⟨hC3, hK3⟩ := hcut
  obtain ⟨w3, hw3⟩ : ∃ w3 : World, w3 = wc := ⟨_, rfl⟩
  subst hw3
  have HC3 := Lib.hid hC3
  have HK3 := Lib.hid (HK2.out.later hK3 (fun b h => .inl h))
  have HNB3 := Lib.hid (HNB2.out.kept hK3 HNz.out.1)
  have HEp3 := Lib.hid (HEp2.out.kept hK3 (fun b hb => HC2.out.far b (.inr (.inr (.inr (.inr hb))))))
  have HZ23 : Hid (w2.heap.size ≤ w3.heap.size) := Lib.hid hK3.size
  clear hC3 hK3 t0 zN
  have t4 : w3.cell? ⟨NB, 4, none⟩ = some (.slice Ap nd.packs.length cp) := HNB3.out.cell 4
  have zN : NB < w3.heap.size := HNB3.out.lt
  go_wp2_with fail
  go_loopw [40] (fun iv wr => ∃ (m : Nat) (st1 cn1 : List Int), m ≤ nd.packs.length ∧ iv = .int .i64 m ∧ InV F st cn v (if nd.sym.term then 1 else 0) ((nd.packs.take m).map (·.kids)) st1 cn1 ∧ CtS SB FB CB VB gS gC F (some ⟨bn, on, none⟩) c root Sf st1 cn1 wr ∧ Kept (fun b => b = gS ∨ b = gC) w3 wr) (fun iv _ => nd.packs.length - (intOf iv).toNat)
  case atStart => exact ⟨0, _, _, Nat.zero_le _, rfl, HIn.out, HC3.out, Kept.refl _ _⟩
  case round =>
   obtain ⟨wo, hwo⟩ : ∃ wo : World, wo = wr := ⟨_, rfl⟩
   subst hwo
   obtain ⟨m, st1, cn1, hm, rfl, hin, hCo, hKo⟩ := hrel
   have HIo := Lib.hid hin
   have HCo := Lib.hid hCo
   have HKo := Lib.hid hKo
   have HEo := Lib.hid (HEp3.out.kept hKo (fun b hb => HC2.out.far b (.inr (.inr (.inr (.inr hb))))))
   have HJ : Hid (∀ l ∈ (nd.packs.take m).map (·.kids), ∀ k ∈ l, k.toNat < F.length) := Lib.hid (fun l hl k hk => by
    obtain ⟨p, hp, rfl⟩ := List.mem_map.1 hl
    exact (((HKl.out nd HND.out.2).2 p (List.mem_of_mem_take hp)).2 k hk).2)
   clear hin hCo hKo t4 zN
   by_cases hlt : m < nd.packs.length
   ·obtain ⟨p, hp⟩ := get_some hlt
    have hpm := List.mem_of_getElem? hp
    obtain ⟨bp, op, Ak, ck, eA, hSp, hbp, hpi, hkl, hkc, hEk, p0, p1⟩ := HEo.out.fpack hp
    subst eA
    have HP := Lib.hid (And.intro hp hpm)
    have hk1000 : p.kids.length ≤ 1000 := ((HKl.out nd HND.out.2).2 p hpm).1
    have hm0 : (0 : Int) ≤ (m : Int) := by omega
    have hm9 : (m : Int) < (nd.packs.length : Int) := by omega
    obtain ⟨PB, hPB⟩ : ∃ b, b = wo.heap.size := ⟨_, rfl⟩
    obtain ⟨w5, hw5⟩ : ∃ w5 : World, w5 = wo.alloc (.cells #[.int .i64 p.rule, .slice Ak p.kids.length ck] 155) := ⟨_, rfl⟩
    have HW5 := Lib.hid hw5
    have hb5 : Below wo.heap.size wo w5 := by rw [hw5]; exact (Below.refl _ _).alloc (Nat.le_refl _) _
    have HP5 : Hid (Blk' w5 PB 155 #[.int .i64 p.rule, .slice Ak p.kids.length ck]) := Lib.hid (by rw [hw5, hPB]; exact Blk'.new _ _ _)
    have HC5 := Lib.hid (HCo.out.below hb5)
    have HEk5 := Lib.hid (hEk.below hb5)
    have HB5 := Lib.hid hb5
    clear hp hpm hpi hkl hkc hEk hw5 hb5
    go_upto_region 10 with (fail)
    rw [← HW5.out, ← hPB]
    clear p0 p1 hbp hSp hPB HW5
    have q1 : w5.cell? ⟨PB, 1, none⟩ = some (.slice Ak p.kids.length ck) := HP5.out.cell 1
    have zP : PB < w5.heap.size := HP5.out.lt
    go_wp2_with fail
    go_loopw [10, 47] (fun xv iv wr => ∃ (b : Nat) (st2 cn2 : List Int), b ≤ p.kids.length ∧ xv = .int .i64 ((prodM (cnF cn2) 1 (p.kids.take b) : Nat) : Int) ∧ iv = .int .i64 b ∧ InV F st cn v (if nd.sym.term then 1 else 0) ((nd.packs.take m).map (·.kids)) st2 cn2 ∧ (∀ k ∈ p.kids.take b, gd st2 k.toNat = 2) ∧ CtS SB FB CB VB gS gC F (some ⟨bn, on, none⟩) c root Sf st2 cn2 wr ∧ Kept (fun b => b = gS ∨ b = gC) w5 wr) (fun _ iv _ => p.kids.length - (intOf iv).toNat)
    case atStart => exact ⟨0, st1, cn1, Nat.zero_le _, rfl, rfl, HIo.out, by simp, HC5.out, Kept.refl _ _⟩
    case round =>
     obtain ⟨wi, hwi⟩ : ∃ wi : World, wi = wr := ⟨_, rfl⟩
     subst hwi
     obtain ⟨b, st2, cn2, hb, rfl, rfl, hin, hdn, hCi, hKi⟩ := hrel
     have HIi := Lib.hid hin
     have HDn := Lib.hid hdn
     have HCi := Lib.hid hCi
     have HKi := Lib.hid hKi
     have HEi := Lib.hid (HEk5.out.kept hKi (fun b hb => HC2.out.far b (.inr (.inr (.inr (.inr hb))))))
     obtain ⟨X, hX⟩ : ∃ X : Nat, X = prodM (cnF cn2) 1 (p.kids.take b) := ⟨_, rfl⟩
     rw [← hX]
     have HXl : Hid (X ≤ 1000000000) := Lib.hid (by rw [hX]; exact prodM_le _ _)
     have HXe := Lib.hid hX
     clear hin hdn hCi hKi q1 zP hX
     by_cases hbl : b < p.kids.length
     ·obtain ⟨k, hk⟩ := get_some hbl
      have hkm := List.mem_of_getElem? hk
      obtain ⟨hk0, hkF⟩ := ((HKl.out nd HND.out.2).2 p HP.out.2).2 k hkm
      obtain ⟨kn, hkn⟩ : ∃ kn : Nat, k = (kn : Int) := ⟨k.toNat, by omega⟩
      subst hkn
      rw [Int.toNat_natCast] at hkF
      obtain ⟨bk, ok, eA, hSk, hbk, hki, k0⟩ := HEi.out.int hk
      subst eA
      have HKk := Lib.hid (And.intro hk hkm)
      have HEd : Hid (EdgeF F v kn) := Lib.hid ⟨nd, HND.out.1, p, HP.out.2, (kn : Int), hkm, by simp⟩
      have hb0 : (0 : Int) ≤ (b : Int) := by omega
      have hb9 : (b : Int) < (p.kids.length : Int) := by omega
      have v0 : wi.cell? ⟨VB, 0, none⟩ = some (.func (.func 97) #[] #[.pointer (some ⟨SB, 0, none⟩), .pointer (some ⟨FB, 0, none⟩), .pointer (some ⟨CB, 0, none⟩), .pointer (some ⟨VB, 0, none⟩)]) := HCi.out.vb.cell 0
      have zV : VB < wi.heap.size := HCi.out.vb.lt
      clear hk hkm hk0 hki hSk
      go_wp2_with fail
      refine (HIH.out (zeros st2) (by have := HIi.out.zer; have := HZ.out; omega) st2 cn2 kn wi rfl HIi.out.ok hkF (fun u hu h1 => by
       rcases (HIi.out.one u hu).1 h1 with h | h
       ·exact (HPa.out u hu h).snoc HEd.out
       ·subst h; exact .one HEd.out) HCi.out).mono ?_
      rintro e w6 (⟨rfl, st3, cn3, hmv, hd3, hC6, hK6⟩ | ⟨rfl, hcy, hK6⟩)
      rotate_left
      ·have HCy := Lib.hid (hcy.up HEd.out)
       have HK6 : Hid (Kept (fun b => b = gS ∨ b = gC) w w6) := Lib.hid ((((HK3.out.later HKo.out (fun b h => .inl h)).below HB5.out).later HKi.out (fun b h => .inl h)).later hK6 (fun b h => .inl h))
       clear hcy hK6 k0 v0 zV hbk
       go_wp2
       go_ret
       exact .inr ⟨rfl, HCy.out, HK6.out⟩
      ·have HI6 := Lib.hid (HIi.out.kid HJ.out hmv)
       have HC6 := Lib.hid hC6
       have HK6 := Lib.hid (HKi.out.later hK6 (fun b h => .inl h))
       have HD6 : Hid (∀ k ∈ p.kids.take (b + 1), gd st3 k.toNat = 2) := Lib.hid (fun k hk => by
        rw [take_snoc HKk.out.1] at hk
        rcases List.mem_append.1 hk with hk | hk
        ·exact (hmv.two k.toNat (((HKl.out nd HND.out.2).2 p HP.out.2).2 k (List.mem_of_mem_take hk)).2 (HDn.out k hk)).1
        ·simp at hk; subst hk; simpa using hd3)
       obtain ⟨Y, hY⟩ : ∃ Y : Nat, gd cn3 kn = (Y : Int) := ⟨(gd cn3 kn).toNat, by have := (hmv.ok.at_ kn hkF).2.1; omega⟩
       have hYl : Y ≤ 1000000000 := by have := (hmv.ok.at_ kn hkF).2.2; omega
       have HXn : Hid (prodM (cnF cn3) 1 (p.kids.take (b + 1)) = min (X * Y) 1000000000) := Lib.hid (by
        rw [take_snoc HKk.out.1, prodM_snoc, HXe.out]
        have h1 : prodM (cnF cn3) 1 (p.kids.take b) = prodM (cnF cn2) 1 (p.kids.take b) := prodM_congr _ _ (fun k hk => by
         unfold cnF
         rw [(hmv.two k.toNat (((HKl.out nd HND.out.2).2 p HP.out.2).2 k (List.mem_of_mem_take hk)).2 (HDn.out k hk)).2])
        have h2 : cnF cn3 ((kn : Int)).toNat = Y := by unfold cnF; rw [Int.toNat_natCast, hY, Int.toNat_natCast]
        rw [h1, h2]
        rfl)
       have c0 : w6.cell? ⟨CB, 0, none⟩ = some (.slice (some ⟨gC, 0, none⟩) F.length F.length) := HC6.out.cb.cell 0
       have zC : CB < w6.heap.size := HC6.out.cb.lt
       have ck0 : w6.cell? ⟨gC, kn, none⟩ = some (.int .i64 (Y : Int)) := by rw [← hY]; exact HC6.out.cnc (by rw [hmv.ok.cl]; exact hkF)
       have zgC : gC < w6.heap.size := HC6.out.cr.lt
       have hkn9 : (kn : Int) < (F.length : Int) := by omega
       have hkn0 : (0 : Int) ≤ (kn : Int) := by omega
       have hXY : X * Y ≤ 1000000000000000000 := Nat.mul_le_mul HXl.out hYl
       have hwm : IntKind.i64.wrap ((X : Int) * (Y : Int)) = ((X * Y : Nat) : Int) := by rw [← Int.natCast_mul]; exact IntWalk.i64_in _ (by omega)
       have HMm : Hid ((if (1000000000 : Int) < (X : Int) * (Y : Int) then (1000000000 : Int) else (X : Int) * (Y : Int)) = ((min (X * Y) 1000000000 : Nat) : Int)) := Lib.hid (by
        rw [← Int.natCast_mul]
        generalize X * Y = z
        split <;> omega)
       clear hmv hd3 hC6 hK6 hY k0 v0 zV hbk
       go_wp2_with fail
       go_roundw
       case rel => exact ⟨b + 1, st3, cn3, hbl, by first | rw [HMm.out, HXn.out] | (rw [show min ((X : Int) * (Y : Int)) 1000000000 = ((min (X * Y) 1000000000 : Nat) : Int) from (by rw [← Int.natCast_mul]; generalize X * Y = z; omega), HXn.out]), by go_num, HI6.out, HD6.out, HC6.out, HK6.out⟩
       case measure => simp [intOf]; omega
     ·have hbb : b = p.kids.length := by omega
      have HPr : Hid (X = prodM (cnF cn2) 1 p.kids) := Lib.hid (by have h := HXe.out; rw [hbb, List.take_of_length_le (Nat.le_refl _)] at h; exact h)
      have HDk : Hid (∀ k ∈ p.kids, k.toNat < F.length ∧ gd st2 k.toNat = 2) := Lib.hid (fun k hk => ⟨(((HKl.out nd HND.out.2).2 p HP.out.2).2 k hk).2, HDn.out k (by rw [hbb, List.take_of_length_le (Nat.le_refl _)]; exact hk)⟩)
      obtain ⟨Y, hY⟩ : ∃ Y : Nat, gd cn2 v = (Y : Int) := ⟨sumM (cnF cn2) (if nd.sym.term then 1 else 0) ((nd.packs.take m).map (·.kids)), HIi.out.cnv⟩
      have hYl : Y ≤ 1000000000 := by have := (HIi.out.ok.at_ v hv).2.2; omega
      have HNx : Hid (InV F st cn v (if nd.sym.term then 1 else 0) ((nd.packs.take (m + 1)).map (·.kids)) st2 (cn2.set v ((min (Y + X) 1000000000 : Nat) : Int))) := Lib.hid (by
       rw [take_snoc HP.out.1, List.map_append]
       refine HIi.out.pack HJ.out p.kids HDk.out _ ?_
       have h1 := HIi.out.cnv
       rw [hY] at h1
       rw [← HPr.out, show sumM (cnF cn2) (if nd.sym.term then 1 else 0) ((nd.packs.take m).map (·.kids)) = Y from by omega]
       rfl)
      have c0 : wi.cell? ⟨CB, 0, none⟩ = some (.slice (some ⟨gC, 0, none⟩) F.length F.length) := HCi.out.cb.cell 0
      have zC : CB < wi.heap.size := HCi.out.cb.lt
      have cv : wi.cell? ⟨gC, v, none⟩ = some (.int .i64 (Y : Int)) := by rw [← hY]; exact HCi.out.cnc (by rw [HIi.out.ok.cl]; exact hv)
      have zgC : gC < wi.heap.size := HCi.out.cr.lt
      have fC := HCi.out.cr.frozen v
      have hXl := HXl.out
      have hws : IntKind.i64.wrap ((Y : Int) + (X : Int)) = ((Y + X : Nat) : Int) := by rw [← Int.natCast_add]; exact IntWalk.i64_in _ (by omega)
      have HMs : Hid ((if (1000000000 : Int) < (Y : Int) + (X : Int) then (1000000000 : Int) else (Y : Int) + (X : Int)) = ((min (Y + X) 1000000000 : Nat) : Int)) := Lib.hid (by split <;> omega)
      clear hbb hY hXl
      go_upto_region 18 with (fail)
      refine wp_region_noPanic ?_
      refine stage_start (S := (fun w' => w'.cell? ⟨CB, 0, none⟩ = some (.slice (some ⟨gC, 0, none⟩) F.length F.length) ∧ w'.cell? ⟨gC, v, none⟩ = some (.int .i64 (Y : Int)))) 10 (by kernel_rfl) ?ha (fun hHeld => ?ba)
      case ha => ((try dsimp only); go_keep)
      refine sl 0 rfl (by intro w h; (try dsimp only at h); go_simp; try with_reducible rfl) ?_
      try simp only [Act.put, sA, sB, sC]
      refine sk 1 rfl (by intro w; go_simp; try with_reducible rfl) ?_
      try simp only [Act.put, sA, sB, sC]
      refine sl 2 rfl (by intro w h; (try dsimp only at h); go_simp; try with_reducible rfl) ?_
      try simp only [Act.put, sA, sB, sC]
      refine sk 3 rfl (by intro w; go_simp; try with_reducible rfl) ?_
      try simp only [Act.put, sA, sB, sC]
      refine sk 4 rfl (by intro w; go_simp; try with_reducible rfl) ?_
      try simp only [Act.put, sA, sB, sC]
      refine sl 5 rfl (by intro w h; (try dsimp only at h); go_simp; try with_reducible rfl) ?_
      try simp only [Act.put, sA, sB, sC]
      refine sk 6 rfl (by intro w; go_simp; try with_reducible rfl) ?_
      try simp only [Act.put, sA, sB, sC]
      refine sk 7 rfl (by intro w; go_simp; try with_reducible rfl) ?_
      try simp only [Act.put, sA, sB, sC]
      refine sk 8 rfl (by intro w; go_simp; try with_reducible rfl) ?_
      try simp only [Act.put, sA, sB, sC]
      refine sk 9 rfl (by intro w; go_simp; try with_reducible rfl) ?_
      try simp only [Act.put, sA, sB, sC]
      refine st_late (i := 10) rfl (by kernel_rfl) (by rfl) (by kernel_rfl) (fun Kq hK => ?_)
      go_simp
      refine hK.out _ _ ?_
      clear hK Kq
      try simp only [Act.put, sA, sB, sC]
      refine wpAnyD_done (by kernel_rfl) ?_ _
      refine NoPanic.normal ?_
      go_wp2_with fail
      first | rw [HMs.out] | rw [show min ((Y : Int) + (X : Int)) 1000000000 = ((min (Y + X) 1000000000 : Nat) : Int) from (by omega)]
      go_roundw
      case rel =>
       obtain ⟨h1, h2⟩ := HCi.out.setC v ((min (Y + X) 1000000000 : Nat) : Int)
       exact ⟨m + 1, st2, _, hlt, by go_num, HNx.out, h1.below (Below.refl _ _).drew, (((HKo.out.below HB5.out).later HKi.out (fun b h => .inl h)).later h2 (fun b h => .inl h)).drew⟩
      case measure => simp [intOf]; omega
   ·have hmm : m = nd.packs.length := by omega
    have HEnd : Hid (Mv F st cn (st1.set v 2) cn1 ∧ gd (st1.set v 2) v = 2) := Lib.hid (by
     have h := HIo.out
     rw [hmm, List.take_of_length_le (Nat.le_refl _)] at h
     exact InV.end_ HND.out.1 h (fun p hp k hk => (((HKl.out nd HND.out.2).2 p hp).2 k hk).2))
    have HLo : Hid (st1.length = F.length) := Lib.hid HIo.out.ok.sl
    have s0 : wo.cell? ⟨SB, 0, none⟩ = some (.slice (some ⟨gS, 0, none⟩) F.length F.length) := HCo.out.sb.cell 0
    have zS : SB < wo.heap.size := HCo.out.sb.lt
    have sv : wo.cell? ⟨gS, v, none⟩ = some (.int .i64 (gd st1 v)) := HCo.out.stc (by rw [HLo.out]; exact hv)
    have zg : gS < wo.heap.size := HCo.out.sr.lt
    have fS := HCo.out.sr.frozen v
    clear hmm
    go_wp2
    go_ret
    obtain ⟨h1, h2⟩ := HCo.out.setS v 2
    exact .inl ⟨rfl, st1.set v 2, cn1, HEnd.out.1, HEnd.out.2, h1, (HK3.out.later HKo.out (fun b h => .inl h)).later h2 (fun b h => .inl h)⟩
end Go.Proofs.YtjdojogjogenkaaDoor
