/- Contract: cycle.Recursive: the nonterminals that begin what they themselves become. -/
import Derived.Test.YtjdojogjogenkaaDoorQPasses
import Derived.Test.YtjdojogjogenkaaDoorQCycLoopsP
namespace Go.Proofs.YtjdojogjogenkaaDoor
open Go.RowKit
set_option linter.unusedVariables false
def LedN (g : Gram) (q : Rule) (c : Int) : Prop := ∃ i : Nat, q.right[i]? = some ⟨false, c⟩ ∧ Nuls g (q.right.take i)
def LedE (g : Gram) (a b : Nat) : Prop := ∃ q ∈ g.rules, q.left = (a : Int) ∧ LedN g q (b : Int)
def FiltIs (P : Nat → Prop) : Nat → List Int → Prop
 | 0, l => l = []
 | k + 1, l => ∃ l', FiltIs P k l' ∧ ((P k ∧ l = l' ++ [(k : Int)]) ∨ (¬ P k ∧ l = l'))
theorem FiltIs.uniq {P : Nat → Prop} : ∀ (k : Nat) (l l' : List Int), FiltIs P k l → FiltIs P k l' → l = l'
 | 0, l, l', h, h' => by
  have h1 : l = [] := h
  have h2 : l' = [] := h'
  rw [h1, h2]
 | k + 1, l, l', ⟨a, ha, h⟩, ⟨b, hb, h'⟩ => by
  have e := FiltIs.uniq k a b ha hb
  subst e
  rcases h with ⟨h1, rfl⟩ | ⟨h1, rfl⟩ <;> rcases h' with ⟨h2, rfl⟩ | ⟨h2, rfl⟩
  ·rfl
  ·exact absurd h1 h2
  ·exact absurd h2 h1
  ·rfl
theorem FiltIs.len {P : Nat → Prop} : ∀ (k : Nat) (l : List Int), FiltIs P k l → l.length ≤ k
 | 0, l, h => by
  have h1 : l = [] := h
  rw [h1]; exact Nat.le_refl _
 | k + 1, l, ⟨a, ha, h⟩ => by
  have e := FiltIs.len k a ha
  rcases h with ⟨h1, rfl⟩ | ⟨h1, rfl⟩
  ·rw [List.length_append]; simp; exact e
  ·exact Nat.le_succ_of_le e
theorem FiltIs.mono {P Q : Nat → Prop} : ∀ (k : Nat) (l : List Int), FiltIs P k l → (∀ j, j < k → (P j ↔ Q j)) → FiltIs Q k l
 | 0, l, h, _ => h
 | k + 1, l, ⟨a, ha, h⟩, hPQ => ⟨a, FiltIs.mono k a ha (fun j hj => hPQ j (by omega)), by rw [← hPQ k (Nat.lt_succ_self k)]; exact h⟩
def LedI (g : Gram) (r : List Sym) (k : Nat) (c : Int) : Prop := ∃ i : Nat, i < k ∧ r[i]? = some ⟨false, c⟩ ∧ Nuls g (r.take i)
section
variable {g : Gram} {r : List Sym} {k : Nat}
theorem LedI.hit {c : Int} (hx : r[k]? = some ⟨false, c⟩) (hn : Nuls g (r.take k)) (d : Int) : LedI g r (k + 1) d ↔ LedI g r k d ∨ d = c := by
 constructor
 ·rintro ⟨i, hi, h1, h2⟩
  by_cases e : i = k
  ·subst e; rw [hx] at h1; injection h1 with h1; injection h1 with _ h1; exact .inr h1.symm
  ·exact .inl ⟨i, by omega, h1, h2⟩
 ·rintro (⟨i, hi, h1, h2⟩ | rfl)
  ·exact ⟨i, by omega, h1, h2⟩
  ·exact ⟨k, Nat.lt_succ_self k, hx, hn⟩
theorem Nuls.take_le {i : Nat} (h : Nuls g (r.take i)) {j : Nat} (hj : j < i) {x : Sym} (hx : r[j]? = some x) : x.term = false ∧ Nul g x.n.toNat :=
 h x (List.mem_iff_getElem?.2 ⟨j, by rw [List.getElem?_take, if_pos hj]; exact hx⟩)
theorem Nuls.snoc {x : Sym} (h : Nuls g (r.take k)) (hx : r[k]? = some x) (ht : x.term = false) (hn : Nul g x.n.toNat) : Nuls g (r.take (k + 1)) := by
 rw [take_snoc hx]
 intro y hy
 rcases List.mem_append.1 hy with hy | hy
 ·exact h y hy
 ·simp at hy; subst hy; exact ⟨ht, hn⟩
theorem LedI.stopT {x : Sym} {q : Rule} (hr : q.right = r) (hx : r[k]? = some x) (ht : x.term = true) (d : Int) : LedN g q d ↔ LedI g r k d := by
 subst hr
 constructor
 ·rintro ⟨i, h1, h2⟩
  refine ⟨i, Nat.lt_of_not_le fun hk => ?_, h1, h2⟩
  rcases Nat.lt_or_eq_of_le hk with hk | rfl
  ·have := (h2.take_le hk hx).1; rw [ht] at this; cases this
  ·rw [hx] at h1; injection h1 with h1; subst h1; cases ht
 ·rintro ⟨i, _, h1, h2⟩; exact ⟨i, h1, h2⟩
theorem LedI.stopE {x : Sym} {q : Rule} (hr : q.right = r) (hx : r[k]? = some x) (hn : ¬ Nul g x.n.toNat) (d : Int) : LedN g q d ↔ LedI g r (k + 1) d := by
 subst hr
 constructor
 ·rintro ⟨i, h1, h2⟩
  exact ⟨i, Nat.lt_of_not_le fun hk => hn (h2.take_le (by omega) hx).2, h1, h2⟩
 ·rintro ⟨i, _, h1, h2⟩; exact ⟨i, h1, h2⟩
theorem LedI.all {q : Rule} (d : Int) : LedN g q d ↔ LedI g q.right q.right.length d := by
 constructor
 ·rintro ⟨i, h1, h2⟩; exact ⟨i, (List.getElem?_eq_some_iff.1 h1).1, h1, h2⟩
 ·rintro ⟨i, _, h1, h2⟩; exact ⟨i, h1, h2⟩
end
def RcS (g : Gram) (j : Nat) (st : List (Int × Int)) : Prop := ∀ a b, (a, b) ∈ st ↔ ∃ i q, i < j ∧ g.rules[i]? = some q ∧ q.left = a ∧ LedN g q b
def RcO (g : Gram) (w1 : World) (v i : Value) (wr : World) : Prop :=
 ∃ (j : Nat) (st : List (Int × Int)), j ≤ g.rules.length ∧ i = .int .i64 j ∧ RcS g j st ∧ st.length ≤ 4 * j ∧ Own wr (fun _ => False) w1.heap.size 111 v st ∧ Below w1.heap.size w1 wr
def RcI (g : Gram) (j : Nat) (q : Rule) (w1 : World) (rb : Nat) (rc : Array Value) (v i : Value) (wr : World) : Prop :=
 ∃ (k : Nat) (st : List (Int × Int)), k ≤ q.right.length ∧ i = .int .i64 k ∧ Nuls g (q.right.take k) ∧ (∀ a b, (a, b) ∈ st ↔ (∃ i q, i < j ∧ g.rules[i]? = some q ∧ q.left = a ∧ LedN g q b) ∨ (a = q.left ∧ LedI g q.right k b)) ∧ st.length ≤ 4 * j + k ∧ Own wr (fun _ => False) w1.heap.size 111 v st ∧ Blk' wr rb 60 rc ∧ v.ownBlock ≠ some rb ∧ Below w1.heap.size w1 wr
def RcL (P : Nat → Prop) (n : Nat) (w3 : World) (v i : Value) (wr : World) : Prop :=
 ∃ (k : Nat) (l : List Int), k ≤ n ∧ i = .int .i64 k ∧ FiltIs P k l ∧ Own wr (fun _ => False) w3.heap.size 3 v l ∧ Below w3.heap.size w3 wr
theorem RcS.next {g : Gram} {j k : Nat} {q : Rule} {st : List (Int × Int)} (hq : g.rules[j]? = some q) (h : ∀ a b, (a, b) ∈ st ↔ (∃ i q, i < j ∧ g.rules[i]? = some q ∧ q.left = a ∧ LedN g q b) ∨ (a = q.left ∧ LedI g q.right k b)) (hk : ∀ d, LedN g q d ↔ LedI g q.right k d) : RcS g (j + 1) st := by
 intro a b
 rw [h a b]
 constructor
 ·rintro (⟨i, q', hi, h1, h2, h3⟩ | ⟨rfl, h1⟩)
  ·exact ⟨i, q', by omega, h1, h2, h3⟩
  ·exact ⟨j, q, Nat.lt_succ_self j, hq, rfl, (hk b).2 h1⟩
 ·rintro ⟨i, q', hi, h1, h2, h3⟩
  by_cases e : i = j
  ·subst e; rw [hq] at h1; injection h1 with h1; subst h1
   exact .inr ⟨h2.symm, (hk b).1 h3⟩
  ·exact .inl ⟨i, q', by omega, h1, h2, h3⟩
set_option maxRecDepth 100000 in
set_option maxHeartbeats 8000000 in
theorem recur_any (g : Gram) (m n : Nat) (A : Option Addr) (c : Nat) (S : Nat → Prop) (w : World) (hgt : g.terms = (m : Int)) (hgn : g.nons = (n : Int)) (hck : checkI g = 0) (hlc : g.rules.length ≤ c) (hc : c ≤ 9223372036854775807) (hA : Els w S g.rules A) (hS : ∀ b, S b → b < w.heap.size) :
  Calls Tryd.prog 78 #[.agg #[.int .i64 g.terms, .int .i64 g.nons, .int .i64 g.start, .slice A g.rules.length c]] w fun en w' => ∃ v l, en = .returned v ∧ FiltIs (fun j => Plus (LedE g) j j) n l ∧ Own w' (fun _ => False) w.heap.size 3 v l ∧ Below w.heap.size w w' := by
 have hv := validG_of hck
 obtain ⟨gt, gn, gs, rs⟩ := g
 dsimp only at *
 subst hgt; subst hgn
 have hmm : m ≤ 100 ∧ 1 ≤ n ∧ n ≤ 100 := by have := hv.t8; have := hv.n1; have := hv.n10; dsimp only at *; omega
 have hrl : rs.length ≤ 32 := hv.len
 have hn9 : (n : Int) ≤ 100 := by omega
 have hsy : ∀ q ∈ rs, ∀ s ∈ q.right, 0 ≤ s.n ∧ (if s.term then s.n < (m : Int) else s.n < (n : Int)) := fun q hq s hs => (hv.rules q hq).2.2.2 s hs
 have hmr := make_any ⟨(m : Int), (n : Int), gs, rs⟩ m n A c S (w.alloc (.cells #[.int .i64 (m : Int), .int .i64 (n : Int), .int .i64 gs, .slice A rs.length c] 24)) rfl rfl hmm.1 hmm.2 hlc hc (hA.below ((Below.refl _ _).alloc (Nat.le_refl _) _)) (fun b hb => by have := hS b hb; simp; omega) (by dsimp only; omega) (fun q hq => ⟨(hv.rules q hq).1, (hv.rules q hq).2.1, hsy q hq⟩)
 have HMr := Lib.hid hmr
 have HV := Lib.hid hv
 have HSy := Lib.hid hsy
 have HA := Lib.hid hA
 have HS := Lib.hid hS
 have HG0 := Lib.hid (Blk'.new w 24 #[.int .i64 (m : Int), .int .i64 (n : Int), .int .i64 gs, .slice A rs.length c])
 have HB0 : Hid (Below w.heap.size w (w.alloc (.cells #[.int .i64 (m : Int), .int .i64 (n : Int), .int .i64 gs, .slice A rs.length c] 24))) := Lib.hid ((Below.refl _ _).alloc (Nat.le_refl _) _)
 clear hmr hv hsy hA hS
 go_enter Tryd.func78, Tryd.ntmps78
 go_wp2_with fail
 refine HMr.out.mono ?_
 rintro en w1 ⟨p, be, bf, bs, cf, e, f, kit, rfl, hM, hsh, hit, hfix, hge, hb1⟩
 have HSt := Lib.hid (show Stable ⟨(m : Int), (n : Int), gs, rs⟩ m n e f from ⟨hsh, ⟨kit, hit⟩, hfix⟩)
 have HM := Lib.hid hM
 have HB1 := Lib.hid (bthen HB0.out hb1 HB0.out.size)
 have HG1 := Lib.hid (HG0.out.below hb1 (by simp))
 have a3 : w1.cell? ⟨w.heap.size, 3, none⟩ = some (.slice A rs.length c) := HG1.out.cell 3
 have a1 : w1.cell? ⟨w.heap.size, 1, none⟩ = some (.int .i64 (n : Int)) := HG1.out.cell 1
 have zG : w.heap.size < w1.heap.size := HG1.out.lt
 clear hM hsh hit hfix hge hb1
 go_wp2_with fail
 go_loopw [4, 17] (fun v i wr => RcO ⟨(m : Int), (n : Int), gs, rs⟩ w1 v i wr) (fun _ i _ => rs.length - (intOf i).toNat)
 case atStart => exact ⟨0, [], Nat.zero_le _, rfl, (fun a b => ⟨fun h => by simp at h, fun ⟨i, q, h, _⟩ => by omega⟩), by simp, Own.nil _ _ _ _, Below.refl _ _⟩
 case round =>
  obtain ⟨wo, hwo⟩ : ∃ wo : World, wo = wr := ⟨_, rfl⟩
  subst hwo
  obtain ⟨j, st, hj, rfl, hst, hsl, hown, hb⟩ := hrel
  obtain ⟨Av, cv, rfl, hcv1, hcv2, _⟩ := hown.form
  dsimp only at hj
  have HP := Lib.hid hst
  have HO := Lib.hid hown
  have HB := Lib.hid hb
  have HSl := Lib.hid hsl
  have HGo := Lib.hid (HG1.out.below hb HG1.out.lt)
  clear hst hown hb a3 a1 hsl
  by_cases hlt : j < rs.length
  ·obtain ⟨q, hq⟩ := get_some hlt
   have hbo := bthen HB1.out HB.out HB1.out.size
   obtain ⟨bq, oq, Aq, cq, rfl, hSb, hbs, hi, hrc, hcr, hEr, hc0, hc1⟩ := (HA.out.belowB hbo HS.out).rule hq
   have hq4 := (HV.out.rules q (List.mem_of_getElem? hq)).2.2.1
   have HQ := Lib.hid (And.intro hq (HSy.out q (List.mem_of_getElem? hq)))
   obtain ⟨ql, qr⟩ := q
   dsimp only at hi hrc hcr hEr hc0 hc1 hq4
   have HQi := Lib.hid hi
   have hj0 : (0 : Int) ≤ (j : Int) := by omega
   obtain ⟨wi, hwi⟩ : ∃ wi : World, wi = wo.alloc (.cells #[.int .i64 ql, .slice Aq qr.length cq] 60) := ⟨_, rfl⟩
   have HWi := Lib.hid hwi
   have hbi : Below wo.heap.size wo wi := by rw [hwi]; exact (Below.refl _ _).alloc (Nat.le_refl _) _
   have HBi := Lib.hid hbi
   have HRb : Hid (Blk' wi wo.heap.size 60 #[.int .i64 ql, .slice Aq qr.length cq]) := Lib.hid (by rw [hwi]; exact Blk'.new _ _ _)
   have HSw : Hid (∀ b, S b → b < w1.heap.size) := Lib.hid (fun b hb => by have := HS.out b hb; have := HB1.out.size; omega)
   have HEw : Hid (Els w1 S qr Aq) := Lib.hid (hEr.keep (fun p hp _ => (HB.out.cell (HSw.out _ hp)).symm) (fun _ h => h))
   have HSi : Hid (∀ b, S b → b < wo.heap.size) := Lib.hid (fun b hb => by have := HS.out b hb; have := hbo.size; omega)
   have HMi := Lib.hid ((HM.out.below HB.out).below hbi)
   have hzi : wo.heap.size < wi.heap.size := by rw [hwi]; simp
   have HOi := Lib.hid (HO.out.below hbi (Nat.le_refl _))
   have HBi1 : Hid (Below w1.heap.size w1 wi) := Lib.hid (bthen HB.out hbi HB.out.size)
   have r1 : wi.cell? ⟨wo.heap.size, 1, none⟩ = some (.slice Aq qr.length cq) := HRb.out.cell 1
   have hqr9 : qr.length ≤ 9223372036854775807 := by omega
   clear hq hbo hi hEr hwi hbi
   go_upto_region 6 with (fail)
   rw [← HWi.out]
   go_wp2_with fail
   clear hc0 hc1
   go_loopw [4, 24] (fun v i wr => RcI ⟨(m : Int), (n : Int), gs, rs⟩ j ⟨ql, qr⟩ w1 wo.heap.size #[.int .i64 ql, .slice Aq qr.length cq] v i wr) (fun _ i _ => qr.length - (intOf i).toNat)
   case atStart => exact ⟨0, st, Nat.zero_le _, rfl, (fun x hx => by simp at hx), (fun a b => by
    rw [HP.out a b]
    constructor
    ·exact .inl
    ·rintro (h | ⟨_, i, h, _⟩)
     ·exact h
     ·omega), by have := HSl.out; omega, HOi.out, HRb.out, (fun e => by have := (HO.out.block _ e).2; omega), HBi1.out⟩
   case round =>
    obtain ⟨wz, hwz⟩ : ∃ wz : World, wz = wr := ⟨_, rfl⟩
    subst hwz
    obtain ⟨k, st2, hk, rfl, hnul, hmem, hsl2, hown, hRz, hnr, hbz⟩ := hrel
    obtain ⟨Al, cl, rfl, hcl1, hcl2, _⟩ := hown.form
    dsimp only at hk hnul
    have HMem := Lib.hid hmem
    have HNu := Lib.hid hnul
    have HOz := Lib.hid hown
    have HB1z := Lib.hid hbz
    have HSl2 := Lib.hid hsl2
    have HNr := Lib.hid hnr
    have HRz := Lib.hid hRz
    have r1 : wz.cell? ⟨wo.heap.size, 1, none⟩ = some (.slice Aq qr.length cq) := hRz.cell 1
    have zr : wo.heap.size < wz.heap.size := hRz.lt
    clear hmem hnul hown hbz hsl2 hRz hnr
    by_cases hkl : k < qr.length
    ·obtain ⟨x, hx⟩ := get_some hkl
     obtain ⟨bx, ox, rfl, hSx, hbx, hxi, hxc0, hxc1⟩ := (HEw.out.belowB HB1z.out HSw.out).sym hx
     have hsr := HQ.out.2 x (List.mem_of_getElem? hx)
     have HX := Lib.hid hx
     obtain ⟨xt, sn⟩ := x
     dsimp only at hxi hxc0 hxc1 hsr
     have HXi := Lib.hid hxi
     have hk0 : (0 : Int) ≤ (k : Int) := by omega
     obtain ⟨ws, hws⟩ : ∃ ws : World, ws = wz.alloc (.cells #[.bool xt, .int .i64 sn] 40) := ⟨_, rfl⟩
     have HWs := Lib.hid hws
     have hbs2 : Below wz.heap.size wz ws := by rw [hws]; exact (Below.refl _ _).alloc (Nat.le_refl _) _
     have HB1s : Hid (Below w1.heap.size w1 ws) := Lib.hid (bthen HB1z.out hbs2 HB1z.out.size)
     have HXs : Hid (Blk' ws wz.heap.size 40 #[.bool xt, .int .i64 sn]) := Lib.hid (by rw [hws]; exact Blk'.new _ _ _)
     have HOs := Lib.hid (HOz.out.below hbs2 (Nat.le_refl _))
     have hzs : wz.heap.size < ws.heap.size := by rw [hws]; simp
     have HRs := Lib.hid (HRz.out.below hbs2 HRz.out.lt)
     have hRs := HRs.out
     have r1' : ws.cell? ⟨wo.heap.size, 0, none⟩ = some (.int .i64 ql) := hRs.cell 0
     have zr' : wo.heap.size < ws.heap.size := hRs.lt
     have x0 : ws.cell? ⟨wz.heap.size, 0, none⟩ = some (.bool xt) := HXs.out.cell 0
     have x1 : ws.cell? ⟨wz.heap.size, 1, none⟩ = some (.int .i64 sn) := HXs.out.cell 1
     clear hx hxi hws hbs2 hRs
     go_upto_region 9 with (fail)
     rw [← HWs.out]
     clear hxc0 hxc1 r1
     cases xt
     ·simp only [Bool.false_eq_true, if_false] at hsr
      have hcap1 : (st2.length + 1) * 16 ≤ 140737488355328 := by have := HSl2.out; omega
      have hcap2 : st2.length + 1 ≤ 9223372036854775807 := by have := HSl2.out; omega
      have HHit := Lib.hid (LedI.hit (g := ⟨(m : Int), (n : Int), gs, rs⟩) HX.out HNu.out)
      go_upto_region 11 with (at_builtin; (refine wpList_own1 _ rfl _ _ elemPair rfl rfl (HOs.out.alloc _) (ql, sn) [.int .i64 ql, .int .i64 sn] rfl (At.new _ _ _) ⟨rfl, HQi.out, HXi.out⟩ hcap1 hcap2 (Nat.le_trans HB1s.out.size ((Below.refl _ _).alloc (Nat.le_refl _) _).size) ?_); (intro v' w3 hown3 hg3 hat3); (obtain ⟨A9, k9, hv9, _⟩ := hown3.form); (rw [snoc_len] at hv9); (subst hv9); (have H3 := Lib.hid (And.intro hown3 (And.intro hg3 hat3))); (clear hown3 hg3 hat3))
      have hzl : wz.heap.size < (ws.alloc (.cells #[.int .i64 ql, .int .i64 sn] 111)).heap.size := by simp; omega
      have hnx : (Value.slice Al st2.length cl).ownBlock ≠ some wz.heap.size := fun e => by have := (HOz.out.block _ e).2; omega
      have HX3 := Lib.hid ((HXs.out.alloc (.cells #[.int .i64 ql, .int .i64 sn] 111)).grown H3.out.2.1 (fun e => hnx e.symm))
      have HR3 := Lib.hid ((HRs.out.alloc (.cells #[.int .i64 ql, .int .i64 sn] 111)).grown H3.out.2.1 (fun e => HNr.out e.symm))
      have HB3 : Hid (Below w1.heap.size w1 w3) := Lib.hid (bgrown (HB1s.out.alloc HB1s.out.size _) H3.out.2.1 (HOs.out.alloc _) (Nat.le_refl _) (Nat.le_trans HB1s.out.size ((Below.refl _ _).alloc (Nat.le_refl _) _).size))
      have HN3 : Hid ((Value.slice A9 (st2.length + 1) k9).ownBlock ≠ some wo.heap.size) := Lib.hid (fun e => by
       rcases H3.out.2.2 with h | h
       ·rw [h] at e; exact HNr.out e
       ·rw [h] at e; injection e with e; omega)
      have HO3 := Lib.hid H3.out.1
      have hM3 := HM.out.below HB3.out
      obtain ⟨eb, heb⟩ : ∃ eb, e.getD sn.toNat false = eb := ⟨_, rfl⟩
      have hsn0 : 0 ≤ sn := hsr.1
      have hsn1 : sn < (n : Int) := hsr.2
      obtain ⟨sm, rfl⟩ : ∃ sm : Nat, sn = (sm : Int) := ⟨sn.toNat, by omega⟩
      have hce : w3.cell? ⟨be, sm, none⟩ = some (.bool eb) := by
       have h := hM3.empty.cell sm
       rw [h]
       have hl : sm < e.length := by rw [hM3.elen]; omega
       obtain ⟨y, hy⟩ := get_some hl
       rw [bcells_get hy]
       rw [← heb, List.getD_eq_getElem?_getD, Int.toNat_natCast, hy]; rfl
      have p4 : w3.cell? ⟨p, 4, none⟩ = some (rowSl be n) := hM3.ptr.cell 4
      have zp : p < w3.heap.size := hM3.ptr.lt
      have ze : be < w3.heap.size := hM3.empty.lt
      have HNul : Hid (eb = true ↔ Nul ⟨(m : Int), (n : Int), gs, rs⟩ sm) := Lib.hid (by rw [← heb]; exact HSt.out.nul HV.out rfl rfl)
      have x13 : w3.cell? ⟨wz.heap.size, 1, none⟩ = some (.int .i64 (sm : Int)) := HX3.out.cell 1
      have zx3 : wz.heap.size < w3.heap.size := HX3.out.lt
      clear hM3 heb x0 x1 r1' zr'
      unfold rowSl at p4
      cases eb
      ·have HNn : Hid (¬ Nul ⟨(m : Int), (n : Int), gs, rs⟩ sm) := Lib.hid (fun h => by have := HNul.out.2 h; cases this)
       have HAll := Lib.hid (LedI.stopE (g := ⟨(m : Int), (n : Int), gs, rs⟩) (q := ⟨ql, qr⟩) rfl HX.out (by simpa using HNn.out))
       go_wp2_with fail
       go_quiet (fail)
       go_wp2
       go_roundw
       case rel =>
        refine ⟨j + 1, st2 ++ [(ql, (sm : Int))], hlt, by go_num, RcS.next (k := k + 1) HQ.out.1 (fun a b => ?_) HAll.out, by rw [snoc_len]; have := HSl2.out; omega, HO3.out.below (bdrewN (Below.refl _ _)) (Nat.le_refl _), bdrewN HB3.out⟩
        rw [List.mem_append, HMem.out a b, HHit.out b]
        simp
        constructor
        ·rintro ((h | h) | h)
         ·exact .inl h
         ·exact .inr ⟨h.1, .inl h.2⟩
         ·exact .inr ⟨h.1, .inr h.2⟩
        ·rintro (h | ⟨h1, h | h⟩)
         ·exact .inl (.inl h)
         ·exact .inl (.inr ⟨h1, h⟩)
         ·exact .inr ⟨h1, h⟩
       case measure => simp [intOf]; omega
      ·have HNx := Lib.hid (HNu.out.snoc HX.out rfl (by simpa using HNul.out.1 rfl))
       go_wp2_with fail
       go_quiet (fail)
       go_wp2
       go_roundw
       case rel =>
        refine ⟨k + 1, st2 ++ [(ql, (sm : Int))], hkl, by go_num, HNx.out, fun a b => ?_, by rw [snoc_len]; have := HSl2.out; omega, HO3.out.below (bdrewN (Below.refl _ _)) (Nat.le_refl _), HR3.out.drewN _, HN3.out, bdrewN HB3.out⟩
        rw [List.mem_append, HMem.out a b, HHit.out b]
        simp
        constructor
        ·rintro ((h | h) | h)
         ·exact .inl h
         ·exact .inr ⟨h.1, .inl h.2⟩
         ·exact .inr ⟨h.1, .inr h.2⟩
        ·rintro (h | ⟨h1, h | h⟩)
         ·exact .inl (.inl h)
         ·exact .inl (.inr ⟨h1, h⟩)
         ·exact .inr ⟨h1, h⟩
       case measure => simp [intOf]; omega
     ·have HAll := Lib.hid (LedI.stopT (g := ⟨(m : Int), (n : Int), gs, rs⟩) (q := ⟨ql, qr⟩) rfl HX.out rfl)
      go_wp2
      go_roundw
      case rel => exact ⟨j + 1, st2, hlt, by go_num, RcS.next HQ.out.1 HMem.out HAll.out, by have := HSl2.out; omega, HOs.out, HB1s.out⟩
      case measure => simp [intOf]; omega
    ·have hkk : k = qr.length := by omega
     have HAll : Hid (∀ d, LedN ⟨(m : Int), (n : Int), gs, rs⟩ ⟨ql, qr⟩ d ↔ LedI ⟨(m : Int), (n : Int), gs, rs⟩ qr k d) := Lib.hid (fun d => by rw [hkk]; exact LedI.all d)
     go_wp2
     go_roundw
     case rel => exact ⟨j + 1, st2, hlt, by go_num, RcS.next HQ.out.1 HMem.out HAll.out, by have := HSl2.out; omega, HOz.out, HB1z.out⟩
     case measure => simp [intOf]; omega
  ·have hjj : j = rs.length := by omega
   have HAll : Hid (∀ a b, (a, b) ∈ st ↔ ∃ q ∈ rs, q.left = a ∧ LedN ⟨(m : Int), (n : Int), gs, rs⟩ q b) := Lib.hid (fun a b => by
    rw [HP.out a b]
    constructor
    ·rintro ⟨i, q, _, h1, h2, h3⟩; exact ⟨q, List.mem_of_getElem? h1, h2, h3⟩
    ·rintro ⟨q, h1, h2, h3⟩
     obtain ⟨i, hi⟩ := List.mem_iff_getElem?.1 h1
     exact ⟨i, q, by rw [hjj]; exact (List.getElem?_eq_some_iff.1 hi).1, hi, h2, h3⟩)
   have HIn : Hid (∀ s ∈ st, (0 ≤ s.1 ∧ s.1 < (n : Int)) ∧ 0 ≤ s.2 ∧ s.2 < (n : Int)) := Lib.hid (fun s hs => by
    obtain ⟨q, hq, h1, i, h2, _⟩ := (HAll.out s.1 s.2).1 hs
    have h3 := HV.out.rules q hq
    have h4 := HSy.out q hq _ (List.mem_of_getElem? h2)
    simp at h4
    have h5 := h3.1; have h6 := h3.2.1
    dsimp only at h5 h6
    omega)
   have HEls := Lib.hid HO.out.vl.els.2.2.2
   have hsm : st.length ≤ 1000000 := by have := HSl.out; omega
   have a1 : wo.cell? ⟨w.heap.size, 1, none⟩ = some (.int .i64 (n : Int)) := HGo.out.cell 1
   have zGo : w.heap.size < wo.heap.size := HGo.out.lt
   go_wp2_with fail
   clear hjj hlt hj
   refine (closure_any n st Av cv _ wo hmm.2.2 hsm HEls.out (fun b hb => hb.2) HIn.out).mono ?_
   rintro en w3 ⟨bf', bs', f', rfl, hR, hG, hge, hb3⟩
   have HR := Lib.hid hR
   have HGt : Hid (∀ a, a < n → (Gt f' a a ↔ Plus (LedE ⟨(m : Int), (n : Int), gs, rs⟩) a a)) := Lib.hid (fun a ha => by
    rw [hG a a ha ha]
    have e : StepR st = LedE ⟨(m : Int), (n : Int), gs, rs⟩ := by
     funext a b
     exact propext (HAll.out a b)
    rw [e])
   have HB3 := Lib.hid (bthen (bthen HB1.out HB.out HB1.out.size) hb3 (by have := HB.out.size; have := HB1.out.size; omega))
   have HG3 := Lib.hid (HGo.out.below hb3 HGo.out.lt)
   have a1' : w3.cell? ⟨w.heap.size, 1, none⟩ = some (.int .i64 (n : Int)) := HG3.out.cell 1
   have zG3 : w.heap.size < w3.heap.size := HG3.out.lt
   clear hR hG hge hb3 HAll HIn HEls a1 zGo
   go_wp2_with fail
   go_loopw [10, 55] (fun v i wr => RcL (fun j => Plus (LedE ⟨(m : Int), (n : Int), gs, rs⟩) j j) n w3 v i wr) (fun _ i _ => n - (intOf i).toNat)
   case atStart => exact ⟨0, [], Nat.zero_le _, rfl, rfl, Own.nil _ _ _ _, Below.refl _ _⟩
   case round =>
    obtain ⟨wa, hwa⟩ : ∃ wa : World, wa = wr := ⟨_, rfl⟩
    subst hwa
    obtain ⟨k, l, hk, rfl, hl, hown, hb⟩ := hrel
    obtain ⟨Al, cl, rfl, hcl1, hcl2, _⟩ := hown.form
    have HOa := Lib.hid hown
    have HL := Lib.hid hl
    have HBa := Lib.hid hb
    have HRa := Lib.hid (HR.out.below hb)
    have hlk : l.length ≤ k := hl.len
    clear hown hl hb a1'
    by_cases hkn : k < n
    ·have hk0 : (0 : Int) ≤ (k : Int) := by omega
     have hk9 : (k : Int) < (n : Int) := by omega
     obtain ⟨bk, hbk⟩ := get_some (show k < bs'.length by rw [HRa.out.blen]; exact hkn)
     obtain ⟨rk, hrk1, hrk2, hrk3⟩ := (WarS.ofRows HRa.out).get hkn
     obtain ⟨x, hx⟩ := get_some (show k < rk.length by omega)
     have c0 : wa.cell? ⟨bf', k, none⟩ = some (.slice (some ⟨bk, 0, none⟩) n n) := HRa.out.outer k bk hbk
     have c1 : wa.cell? ⟨bk, k, none⟩ = some (.bool x) := ((HRa.out.rows k bk rk hbk hrk1).1.cell _).trans (bcells_get hx)
     have zf := HRa.out.bflt
     have zk := (HRa.out.rows k bk rk hbk hrk1).1.lt
     have HX : Hid (x = true ↔ Plus (LedE ⟨(m : Int), (n : Int), gs, rs⟩) k k) := Lib.hid (by
      rw [← HGt.out k hkn]
      unfold Gt
      rw [hrk2, hx]
      simp)
     have hcap1 : (l.length + 1) * 8 ≤ 140737488355328 := by omega
     have hcap2 : l.length + 1 ≤ 9223372036854775807 := by omega
     have hki : I64 (k : Int) := by unfold I64; omega
     have HKi := Lib.hid hki
     clear hbk hrk1 hrk2 hrk3 hx hki
     cases x
     ·go_wp2
      go_roundw
      case rel => exact ⟨k + 1, l, hkn, by go_num, ⟨l, HL.out, .inr ⟨(fun h => by have h9 := HX.out.2 h; cases h9), rfl⟩⟩, HOa.out, HBa.out⟩
      case measure => simp [intOf]; omega
     ·go_wp2_with (at_builtin; refine wpList_own1 _ rfl _ _ elemInt rfl rfl (HOa.out.alloc _) (k : Int) [.int .i64 (k : Int)] rfl (At.new _ _ _) ⟨rfl, HKi.out⟩ hcap1 hcap2 (Nat.le_trans HBa.out.size ((Below.refl _ _).alloc (Nat.le_refl _) _).size) ?_; intro v' w4 hown3 hg3 hat3; have H3 := Lib.hid (And.intro hown3 hg3); clear hown3 hg3 hat3)
      go_roundw
      case rel =>
       refine ⟨k + 1, l ++ [(k : Int)], hkn, by go_num, ⟨l, HL.out, .inl ⟨HX.out.1 rfl, rfl⟩⟩, H3.out.1, bgrown (HBa.out.alloc HBa.out.size _) H3.out.2 (HOa.out.alloc _) (Nat.le_refl _) (Nat.le_trans HBa.out.size ((Below.refl _ _).alloc (Nat.le_refl _) _).size)⟩
      case measure => simp [intOf]; omega
    ·have hkk : k = n := by omega
     have HFin : Hid (FiltIs (fun j => Plus (LedE ⟨(m : Int), (n : Int), gs, rs⟩) j j) n l) := Lib.hid (by have h9 := HL.out; rw [hkk] at h9; exact h9)
     go_wp2
     go_ret
     exact ⟨_, l, rfl, HFin.out, HOa.out.base HB3.out.size, bthen HB3.out HBa.out HB3.out.size⟩
end Go.Proofs.YtjdojogjogenkaaDoor
