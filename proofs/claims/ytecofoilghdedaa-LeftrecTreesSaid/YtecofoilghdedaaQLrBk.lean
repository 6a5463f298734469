/- Contracts: (*leftrec.plan).back and its closure: a tree back. -/
import Derived.Test.YtecofoilghdedaaQLrTh
import Derived.Test.YtecofoilghdedaaQLrV
namespace Go.Proofs.Ytecofoilghdedaa
open Go.RowKit
set_option linter.unusedVariables false

def BkOk (P gT : Nat) (g : Gram) (n : Nat) (A A1 A2 : Option Addr) (c c1 c2 : Nat) (Sg Sp : Nat → Prop) (t : Tree) : Prop :=
  ∀ (w : World) (B : Option Addr) (d : Nat) (S : Nat → Prop), PlanM w P gT g n A A1 A2 c c1 c2 Sg Sp → I64 t.rule → I64 t.term → t.kids.length ≤ d → d ≤ 9223372036854775807 → Els w S t.kids B → (∀ b, S b → b < w.heap.size) →
    Calls Try.prog 29 #[.pointer (some ⟨P, 0, none⟩), .agg #[.int .i64 t.rule, .int .i64 t.term, .slice B t.kids.length d]] w (RetLT (bkT g n t) w)
theorem bkL_take {g : Gram} {n : Nat} {ks : List Tree} {m : Nat} {k : Tree} (h : ks[m]? = some k) : bkL g n (ks.take (m + 1)) = bkL g n (ks.take m) ++ [bkT g n k] := by
  rw [bkL_map, bkL_map, take_snoc h]
  simp

set_option maxRecDepth 100000 in
set_option maxHeartbeats 4000000 in
theorem kidsBk_any {P gT : Nat} {g : Gram} {n : Nat} {A A1 A2 : Option Addr} {c c1 c2 : Nat} {Sg Sp : Nat → Prop} (ks : List Tree) (IH : ∀ k ∈ ks, BkOk P gT g n A A1 A2 c c1 c2 Sg Sp k) (w : World) (B : Option Addr) (d : Nat) (S : Nat → Prop) (P2 : Nat) (hP2 : w.cell? ⟨P2, 0, none⟩ = some (.pointer (some ⟨P, 0, none⟩))) (hz2 : P2 < w.heap.size) (hp : PlanM w P gT g n A A1 A2 c c1 c2 Sg Sp) (hl : ks.length ≤ 1000) (hld : ks.length ≤ d) (hB : Els w S ks B) (hS : ∀ b, S b → b < w.heap.size) :
    Calls Try.prog 56 #[.slice B ks.length d, .pointer (some ⟨P2, 0, none⟩)] w (RetOwn w (fun _ => False) 47 (bkL g n ks)) := by
  have HIH := Lib.hid IH
  have HP2c := Lib.hid (And.intro hP2 hz2)
  have HP := Lib.hid hp
  have HB := Lib.hid hB
  have HS := Lib.hid hS
  clear IH hp hB hS hP2 hz2
  go_enter Try.func56, Try.ntmps56
  go_wp2_with fail
  go_loopw [4, 9] (fun l i wr => ∃ (m : Nat) (v : Value), m ≤ ks.length ∧ l = v ∧ i = .int .i64 m ∧ Own wr (fun _ => False) w.heap.size 47 v (bkL g n (ks.take m)) ∧ Below w.heap.size w wr) (fun _ i _ => ks.length - (intOf i).toNat)
  case atStart => exact ⟨0, _, Nat.zero_le _, rfl, rfl, by simpa [bkL] using Own.nil _ _ _ _, Below.refl _ _⟩
  case round =>
    obtain ⟨wo, hwo⟩ : ∃ wo : World, wo = wr := ⟨_, rfl⟩
    subst hwo
    obtain ⟨m, v, hm, ev, rfl, hO, hb⟩ := hrel
    replace ev := ev.symm
    subst ev
    have HO := Lib.hid hO
    have HBo := Lib.hid hb
    clear hO hb
    by_cases hmn : m < ks.length
    · obtain ⟨k, hk⟩ := get_some hmn
      obtain ⟨bk, ok, A', c', rfl, hSb, hbs, i1, i2, hkl, hc', hEk, k0, k1, k2⟩ := (HB.out.belowB HBo.out HS.out).tree hk
      have HK := Lib.hid hk
      have HIk := Lib.hid (HIH.out k (List.mem_of_getElem? hk))
      have hm0 : (0 : Int) ≤ (m : Int) := by omega
      have hm9 : (m : Int) < (ks.length : Int) := by omega
      have HI12 := Lib.hid (And.intro i1 (And.intro i2 (And.intro hkl hc')))
      obtain ⟨kl, hkle⟩ : ∃ kl, kl = k.kids.length := ⟨_, rfl⟩
      rw [← hkle] at k2
      have HKl := Lib.hid hkle
      obtain ⟨w2, hw2⟩ : ∃ w2 : World, w2 = wo.alloc (.cells #[.int .i64 k.rule, .int .i64 k.term, .slice A' kl c'] 47) := ⟨_, rfl⟩
      have HW2 := Lib.hid hw2
      have hb2 : Below wo.heap.size wo w2 := by rw [hw2]; exact (Below.refl _ _).alloc (Nat.le_refl _) _
      have HX2 : Hid (Blk' w2 wo.heap.size 47 #[.int .i64 k.rule, .int .i64 k.term, .slice A' kl c']) := Lib.hid (by rw [hw2]; exact Blk'.new _ _ _)
      have HB2 := Lib.hid (bthen HBo.out hb2 HBo.out.size)
      have HE2 := Lib.hid (hEk.below hb2)
      have HO2 := Lib.hid (HO.out.below hb2 (Nat.le_refl _))
      clear hk i1 i2 hkl hEk hw2 hb2 hkle
      go_upto_region 5 with (fail)
      rw [← HW2.out]
      have x0 : w2.cell? ⟨wo.heap.size, 0, none⟩ = some (.int .i64 k.rule) := HX2.out.cell 0
      have x1 : w2.cell? ⟨wo.heap.size, 1, none⟩ = some (.int .i64 k.term) := HX2.out.cell 1
      have x2 : w2.cell? ⟨wo.heap.size, 2, none⟩ = some (.slice A' kl c') := HX2.out.cell 2
      have zX : wo.heap.size < w2.heap.size := HX2.out.lt
      have c2c : w2.cell? ⟨P2, 0, none⟩ = some (.pointer (some ⟨P, 0, none⟩)) := (HB2.out.cell (p := ⟨P2, 0, none⟩) HP2c.out.2).trans HP2c.out.1
      have z2c : P2 < w2.heap.size := Nat.lt_of_lt_of_le HP2c.out.2 HB2.out.size
      clear k0 k1 k2 hSb hbs HW2
      go_wp2_with fail
      rw [HKl.out]
      refine (HIk.out w2 A' c' S (HP.out.below HB2.out) HI12.out.1 HI12.out.2.1 HI12.out.2.2.1 HI12.out.2.2.2 HE2.out (fun b hb => by have := HS.out b hb; have := HB2.out.size; omega)).mono ?_
      rintro e w3 ⟨At', ct, rfl, j1, j2, j3, j4, hE3, hb3⟩
      have HB3 := Lib.hid (bthen HB2.out hb3 HB2.out.size)
      have HO3 := Lib.hid (HO2.out.below hb3 (Nat.le_refl _))
      obtain ⟨y, hy⟩ : ∃ y, y = bkT g n k := ⟨_, rfl⟩
      rw [← hy] at j1 j2 j3 hE3
      rw [← hy]
      have HY := Lib.hid hy
      obtain ⟨yl, hyl⟩ : ∃ yl, yl = y.kids.length := ⟨_, rfl⟩
      have HYl := Lib.hid hyl
      rw [← hyl] at j3
      rw [← hyl]
      have hzo := HO2.out
      have HRd : Hid (Dat.rd (w3.alloc (.cells #[.int .i64 y.rule, .int .i64 y.term, .slice At' yl ct] 47)) (OwnT (fun _ => False) w.heap.size v (w3.alloc (.cells #[.int .i64 y.rule, .int .i64 y.term, .slice At' yl ct] 47))) y [.int .i64 y.rule, .int .i64 y.term, .slice At' yl ct]) := Lib.hid (rd_tree.2 ⟨_, rfl, j1, j2, by
        rw [hyl] at j3 ⊢
        refine Vl.of_slice rfl j3 j4 (hE3.keep (fun p hp hlt => ((Below.refl _ _).alloc (Nat.le_refl _) _).cell hlt) (fun b hb => ⟨.inr (by have := HB2.out.size; omega), fun h => by have := (hzo.block b h).2; omega, by simp; omega⟩))⟩)
      have HCp : Hid (((bkL g n (ks.take m)).length + 1) * 40 ≤ 140737488355328 ∧ (bkL g n (ks.take m)).length + 1 ≤ 9223372036854775807 ∧ w.heap.size ≤ (w3.alloc (.cells #[.int .i64 y.rule, .int .i64 y.term, .slice At' yl ct] 47)).heap.size) := Lib.hid ⟨by rw [bkL_map, List.length_map, List.length_take]; omega, by rw [bkL_map, List.length_map, List.length_take]; omega, by have := HB3.out.size; simp; omega⟩
      clear hzo hy hyl j1 j2 j3 hE3 hb3 x0 x1 x2 zX c2c z2c
      go_wp2_with (at_builtin; (refine wpList_own1 _ rfl _ _ elemTree rfl rfl (HO3.out.alloc (.cells #[.int .i64 y.rule, .int .i64 y.term, .slice At' yl ct] 47)) y [.int .i64 y.rule, .int .i64 y.term, .slice At' yl ct] rfl (At.new _ _ _) HRd.out HCp.out.1 HCp.out.2.1 HCp.out.2.2 ?_); (intro v' w4 hO4 hg4 _); (rw [HY.out, ← bkL_take HK.out] at hO4); (have HO4 := Lib.hid hO4); (have HB4 := Lib.hid (bgrown (HB3.out.alloc HB3.out.size _) hg4 (HO3.out.alloc _) (Nat.le_refl _) HCp.out.2.2)); (clear hO4 hg4))
      go_roundw
      case rel => exact ⟨m + 1, _, hmn, rfl, by go_num, HO4.out, HB4.out⟩
      case measure => simp [intOf]; omega
    · have hmm : m = ks.length := by omega
      have HFin : Hid (Own wo (fun _ => False) w.heap.size 47 v (bkL g n ks)) := Lib.hid (by have h := HO.out; rw [hmm, List.take_length] at h; exact h)
      clear hmm
      go_wp2
      go_ret
      exact ⟨v, rfl, HFin.out, HBo.out⟩


theorem own_litT {w : World} {S : Nat → Prop} {e : TypeId} {x : Tree} {cs : List Value} (h : Dat.rd (w.alloc (.cells cs.toArray e)) (fun b => S b ∧ b < w.heap.size) x cs) : Own (w.alloc (.cells cs.toArray e)) S w.heap.size e (.slice (some ⟨w.heap.size, 0, none⟩) 1 1) [x] := by
  have hl : cs.length = 3 := Dat.len h
  refine ⟨[cs], ⟨(by show [cs].flatten.length = 1 * 3; simp [hl]), .inr ⟨w.heap.size, 1, cs.toArray, rfl, Nat.le_refl _, heap_alloc_new w _, Nat.le_refl _, by simp [maxLen], (by show cs.toArray.size = 1 * 3; simp [hl]), ?_⟩⟩, rfl, ?_⟩
  · show (cs.toArray.toList.take (1 * Dat.size Tree)) = [cs].flatten
    simp
    rw [List.take_of_length_le (by rw [hl]; exact Nat.le_refl 3)]
  · intro i y ds hi hc
    cases i with
    | zero =>
      simp at hi hc
      subst hi; subst hc
      exact Dat.keep (fun _ _ _ => rfl) (fun b hb => ⟨.inl hb.1, (fun e => by have h2 := hb.2; injection e with e; dsimp only at e; omega), by simp; omega⟩) h
    | succ i => simp at hi
/-- On the way along the tails: o the tree so far, x the tail. -/
structure LbL (O7 XB R4 : Nat) (S : Nat → Prop) (g : Gram) (n : Nat) (tv : Int) (H : Nat) (t0 : Tree) (Z : Nat → Prop) (w8 wr : World) (o x : Tree) (Bx Ao : Option Addr) (dx dO : Nat) : Prop where
  ob : Blk' wr O7 47 #[.int .i64 o.rule, .int .i64 o.term, .slice Ao o.kids.length dO]
  xb : Blk' wr XB 47 #[.int .i64 x.rule, .int .i64 x.term, .slice Bx x.kids.length dx]
  ne : O7 ≠ XB ∧ R4 ≠ XB ∧ H ≤ XB ∧ (Z XB ∨ w8.heap.size ≤ XB)
  x1 : I64 x.rule
  x2 : I64 x.term
  x3 : x.kids.length ≤ dx
  x4 : dx ≤ 9223372036854775807
  xe : Els wr S x.kids Bx
  o1 : I64 o.rule
  o2 : I64 o.term
  o3 : o.kids.length ≤ dO
  o4 : dO ≤ 9223372036854775807
  oe : Els wr (fun b => H ≤ b ∧ b < wr.heap.size ∧ b ≠ O7 ∧ b ≠ XB ∧ b ≠ R4) o.kids Ao
  vx : vt (strG g n) x ⟨false, tv⟩
  bk : bkT g n t0 = bkX g n o x
  kept : Kept Z w8 wr

theorem LbL.below {O7 XB R4 : Nat} {S : Nat → Prop} {g : Gram} {n : Nat} {tv : Int} {H : Nat} {t0 : Tree} {Z : Nat → Prop} {w8 wr wx : World} {o x : Tree} {Bx Ao : Option Addr} {dx dO : Nat} (h : LbL O7 XB R4 S g n tv H t0 Z w8 wr o x Bx Ao dx dO) (hb : Below wr.heap.size wr wx) : LbL O7 XB R4 S g n tv H t0 Z w8 wx o x Bx Ao dx dO :=
  ⟨h.ob.below hb h.ob.lt, h.xb.below hb h.xb.lt, h.ne, h.x1, h.x2, h.x3, h.x4, h.xe.below hb, h.o1, h.o2, h.o3, h.o4, (h.oe.below hb).keep (fun _ _ _ => rfl) (fun b hb' => ⟨hb'.1, Nat.lt_of_lt_of_le hb'.2.1 hb.size, hb'.2.2⟩), h.vx, h.bk, h.kept.below hb⟩

set_option maxRecDepth 100000 in
set_option maxHeartbeats 8000000 in
theorem back_any {P gT : Nat} {g : Gram} {n : Nat} {A A1 A2 : Option Addr} {c c1 c2 : Nat} {Sg Sp : Nat → Prop} (hv : ValidG g) (hgn : g.nons = (n : Int)) (hlc : g.rules.length ≤ c) (hc : c ≤ 9223372036854775807) (hfc : (fromL g n).length ≤ c2) (hc2 : c2 ≤ 9223372036854775807) :
    ∀ (N : Nat) (t : Tree) (s : Sym), nodesT t ≤ N → vt (strG g n) t s → (s.term = true ∨ s.n < (n : Int)) → BkOk P gT g n A A1 A2 c c1 c2 Sg Sp t := by
  intro N
  induction N with
  | zero => intro t s hn; obtain ⟨r, tt, ks⟩ := t; simp [nodesT] at hn
  | succ N ih =>
  intro t s hn hvt hsn w B d S hp i1 i2 hld hd hB hS
  obtain ⟨r, tt, ks⟩ := t
  dsimp only [Tree.rule, Tree.term, Tree.kids] at i1 i2 hld hB ⊢
  have HP := Lib.hid hp
  have HS := Lib.hid hS
  have HV := Lib.hid hv
  have HIh := Lib.hid ih
  have hn10 : n ≤ 10 := by have := hv.n10; omega
  have hrl : g.rules.length ≤ 32 := hv.len
  obtain ⟨P2, hP2⟩ : ∃ b, b = w.heap.size := ⟨_, rfl⟩
  obtain ⟨T3, hT3⟩ : ∃ b, b = w.heap.size + 1 := ⟨_, rfl⟩
  obtain ⟨R4, hR4⟩ : ∃ b, b = w.heap.size + 1 + 1 := ⟨_, rfl⟩
  obtain ⟨w1, hw1⟩ : ∃ w1 : World, w1 = ((w.alloc (.cells #[.pointer (some ⟨P, 0, none⟩)] 77)).alloc (.cells #[.int .i64 r, .int .i64 tt, .slice B ks.length d] 47)).alloc (.cells #[.int .i64 0, .int .i64 0, .slice none 0 0] 47) := ⟨_, rfl⟩
  have HW1 := Lib.hid hw1
  have hb1 : Below w.heap.size w w1 := by rw [hw1]; exact (((Below.refl _ _).alloc (Nat.le_refl _) _).alloc (by simp) _).alloc (by simp; omega) _
  have HC1 : Hid (Blk' w1 P2 77 #[.pointer (some ⟨P, 0, none⟩)]) := Lib.hid (by rw [hw1, hP2]; exact ((Blk'.new _ _ _).alloc _).alloc _)
  have HT1 : Hid (Blk' w1 T3 47 #[.int .i64 r, .int .i64 tt, .slice B ks.length d]) := Lib.hid (by rw [hw1]; exact (Blk'.new' _ _ _ (by rw [hT3]; simp)).alloc _)
  have HR1 : Hid (Blk' w1 R4 47 #[.int .i64 0, .int .i64 0, .slice none 0 0]) := Lib.hid (by rw [hw1]; exact Blk'.new' _ _ _ (by rw [hR4]; simp))
  have HZ : Hid (P2 = w.heap.size ∧ T3 = w.heap.size + 1 ∧ R4 = w.heap.size + 2 ∧ w1.heap.size = w.heap.size + 3 ∧ P < w.heap.size ∧ gT < w.heap.size) := Lib.hid ⟨hP2, hT3, hR4, by rw [hw1]; simp, hp.ptr.lt, hp.tails.lt⟩
  have HPm := Lib.hid (hp.below hb1)
  have HB1 := Lib.hid hb1
  have HEk := Lib.hid (hB.below hb1)
  clear hw1 hb1 hp hB hS ih hv
  go_enter Try.func29, Try.ntmps29
  go_upto_region 1 with (fail)
  rw [← HW1.out, ← hR4, ← hT3, ← hP2]
  clear HW1 hR4 hT3 hP2
  have t0 : w1.cell? ⟨T3, 0, none⟩ = some (.int .i64 r) := HT1.out.cell 0
  have t1 : w1.cell? ⟨T3, 1, none⟩ = some (.int .i64 tt) := HT1.out.cell 1
  have t2 : w1.cell? ⟨T3, 2, none⟩ = some (.slice B ks.length d) := HT1.out.cell 2
  have zT : T3 < w1.heap.size := HT1.out.lt
  by_cases hr : r < 0
  · have HBk : Hid (bkT g n ⟨r, tt, ks⟩ = ⟨-1, tt, []⟩) := Lib.hid (by rw [bkT_eq, if_pos hr])
    have HI2 := Lib.hid i2
    clear i1 i2 hvt hn
    go_wp2_with fail
    refine (leafL_any tt w1).mono ?_
    rintro e w2 ⟨rfl, hb2⟩
    have HR2 := Lib.hid (HR1.out.below hb2 HR1.out.lt)
    have HB2 := Lib.hid (bthen HB1.out hb2 HB1.out.size)
    have q0 := HR2.out.cell 0
    have q1 := HR2.out.cell 1
    have q2 := HR2.out.cell 2
    have f0 := HR2.out.frozen 0
    have f1 := HR2.out.frozen 1
    have f2 := HR2.out.frozen 2
    have zR := HR2.out.lt
    simp at q0 q1 q2
    clear hb2 t0 t1 t2 zT
    go_wp2_with fail
    generalize hwF : World.setCell _ _ _ = wF
    obtain ⟨hRF, kF⟩ := set3 HR2.out (.int .i64 (-1)) (.int .i64 tt) (.slice none 0 0)
    rw [hwF] at hRF kF
    have u0 : wF.cell? ⟨R4, 0, none⟩ = some (.int .i64 (-1)) := hRF.cell 0
    have u1 : wF.cell? ⟨R4, 1, none⟩ = some (.int .i64 tt) := hRF.cell 1
    have u2 : wF.cell? ⟨R4, 2, none⟩ = some (.slice none 0 0) := hRF.cell 2
    have hz := HZ.out
    refine bodyPost_ret (v := .agg #[.int .i64 (-1), .int .i64 tt, .slice none 0 0]) (by simp [results, Try.results29, go_sem, u0, u1, u2]) rfl ?_
    rw [HBk.out]
    exact ⟨none, 0, rfl, (show I64 (-1) from ⟨by decide, by decide⟩), HI2.out, Nat.le_refl _, by omega, fun h => absurd rfl h, HB2.out.trans (kF.to_below (B := w.heap.size) (fun b hb => by omega) HB2.out.size)⟩
  · obtain ⟨htt, hst, i, q, hri, hq, hql, hcase⟩ := vtOut_node HV.out hgn hvt hsn hr
    subst htt
    subst hri
    have hqv := HV.out.rules q (List.mem_of_getElem? hq)
    obtain ⟨l, hl⟩ : ∃ l : Nat, q.left = (l : Int) := ⟨q.left.toNat, by omega⟩
    have hln : l < n := by omega
    have hra : ruleAt g (i : Int) = q := by unfold ruleAt; rw [Int.toNat_natCast, List.getD_eq_getElem?_getD, hq]; rfl
    obtain ⟨tv, htv⟩ : ∃ tv, tv = tailI g n l := ⟨_, rfl⟩
    have HTv := Lib.hid htv
    have htl : tlT g n (i : Int) = tv := by unfold tlT; rw [hra, hl, htv]; rfl
    rw [hl, Int.toNat_natCast, ← htv] at hcase
    have hil : i < g.rules.length := (List.getElem?_eq_some_iff.1 hq).1
    obtain ⟨bq, oq, Aq, cq, eA, hSq, hbq, hqi, hrc, hcq, hEq, hq0, hq1⟩ := HPm.out.els.rule hq
    rw [hl] at hq0
    have c2c : w1.cell? ⟨P2, 0, none⟩ = some (.pointer (some ⟨P, 0, none⟩)) := HC1.out.cell 0
    have zC : P2 < w1.heap.size := HC1.out.lt
    have p8 : w1.cell? ⟨P, 8, none⟩ = some (.slice (some ⟨gT, 0, none⟩) n n) := HPm.out.ptr.cell 8
    have p3 : w1.cell? ⟨P, 3, none⟩ = some (.slice A g.rules.length c) := HPm.out.ptr.cell 3
    have g0 : w1.cell? ⟨gT, l, none⟩ = some (.int .i64 tv) := (HPm.out.tails.cell _).trans (icells_get (by rw [tailsL_get hln (Nat.le_refl _), if_pos hln, htv]))
    have zP : P < w1.heap.size := HPm.out.ptr.lt
    have hi9 : (i : Int) < (g.rules.length : Int) := by omega
    have hi0 : (0 : Int) ≤ (i : Int) := by omega
    have hl9 : (l : Int) < (n : Int) := by omega
    have HI1 := Lib.hid i1
    have HNd := Lib.hid hn
    have HTl := Lib.hid htl
    have HQ := Lib.hid (And.intro hq hqv)
    have HCs := Lib.hid hcase
    clear i1 i2 hn hqi hEq hq1 htv hra htl hl hql hqv hq hcase hvt hsn
    subst eA
    go_upto_region 4 with (fail)
    go_quiet (fail)
    obtain ⟨w2, hw2⟩ : ∃ w2 : World, w2 = w1.drewN nq := ⟨_, rfl⟩
    have hb2 : Below w1.heap.size w1 w2 := by rw [hw2]; exact bdrewN (Below.refl _ _)
    rw [← hw2]
    have HT2 := Lib.hid (HT1.out.below hb2 HT1.out.lt)
    have HC2 := Lib.hid (HC1.out.below hb2 HC1.out.lt)
    have HR2 := Lib.hid (HR1.out.below hb2 HR1.out.lt)
    have HP2 := Lib.hid (HPm.out.below hb2)
    have HE2 := Lib.hid (HEk.out.below hb2)
    have HB2 := Lib.hid (bthen HB1.out hb2 HB1.out.size)
    have HZ2 : Hid (w1.heap.size ≤ w2.heap.size) := Lib.hid hb2.size
    clear t0 t1 t2 p8 p3 g0 zT zP hq0 hbq hSq hw2 hb2 c2c zC
    have t0 : w2.cell? ⟨T3, 0, none⟩ = some (.int .i64 (i : Int)) := HT2.out.cell 0
    have c2c : w2.cell? ⟨P2, 0, none⟩ = some (.pointer (some ⟨P, 0, none⟩)) := HC2.out.cell 0
    have zC : P2 < w2.heap.size := HC2.out.lt
    have zT : T3 < w2.heap.size := HT2.out.lt
    by_cases htv0 : tv < 0
    · have hks := (HCs.out.resolve_right (fun h => by omega)).2
      have hks4 : ks.length ≤ 4 := by rw [vts_same ks q.right hks]; exact HQ.out.2.2.2.1
      have t2 : w2.cell? ⟨T3, 2, none⟩ = some (.slice B ks.length d) := HT2.out.cell 2
      have HKids : Hid (∀ k ∈ ks, BkOk P gT g n (some ⟨bq, oq, none⟩) A1 A2 c c1 c2 Sg Sp k) := Lib.hid (fun k hk => by
        obtain ⟨s', h1, h2⟩ := vts_mem ks q.right hks k hk
        have h3 := nodes_mem hk
        have hn := HNd.out
        simp only [nodesT] at hn
        exact HIh.out k s' (by omega) h2 (sym_old HV.out hgn (List.mem_of_getElem? HQ.out.1) h1))
      have HCC := Lib.hid (And.intro c2c zC)
      clear hks
      go_wp2_with fail
      refine wp_region_noPanic ?_
      refine stage_start (S := (fun w' => w'.cell? ⟨T3, 0, none⟩ = some (.int .i64 (i : Int)) ∧ w'.cell? ⟨T3, 2, none⟩ = some (.slice B ks.length d))) 7 (by kernel_rfl) ?ha (fun hHeld => ?ba)
      case ha => ((try dsimp only); go_keep)
      refine st_pure (i := 0) (v := ?va0) rfl (by kernel_rfl) (by kernel_rfl) (by kernel_rfl) (by kernel_rfl) (fun _ _ _ h => h) (by rfl) ?ya0 (.inl (by assumption)) ?ra0
      case ya0 => (intro w; go_simp; try with_reducible rfl)
      try simp only [Act.put, List.setIfInBounds_toArray, List.set_cons_zero, List.set_cons_succ]
      refine st_run (i := 1) (v := ?va1) rfl (by kernel_rfl) (by kernel_rfl) (by kernel_rfl) (by kernel_rfl) (fun _ _ _ h => h) (by rfl) ?ya1 (by assumption) ?ra1
      case ya1 => (intro w hSw; (try dsimp only at hSw); go_simp; try with_reducible rfl)
      try simp only [Act.put, List.setIfInBounds_toArray, List.set_cons_zero, List.set_cons_succ]
      refine st_pure (i := 2) (v := ?va2) rfl (by kernel_rfl) (by kernel_rfl) (by kernel_rfl) (by kernel_rfl) (fun _ _ _ h => h) (by rfl) ?ya2 (.inl (by assumption)) ?ra2
      case ya2 => (intro w; go_simp; try with_reducible rfl)
      try simp only [Act.put, List.setIfInBounds_toArray, List.set_cons_zero, List.set_cons_succ]
      refine st_pure (i := 3) (v := ?va3) rfl (by kernel_rfl) (by kernel_rfl) (by kernel_rfl) (by kernel_rfl) (fun _ _ _ h => h) (by rfl) ?ya3 (.inl (by assumption)) ?ra3
      case ya3 => (intro w; go_simp; try with_reducible rfl)
      try simp only [Act.put, List.setIfInBounds_toArray, List.set_cons_zero, List.set_cons_succ]
      refine st_run (i := 4) (v := ?va4) rfl (by kernel_rfl) (by kernel_rfl) (by kernel_rfl) (by kernel_rfl) (fun _ _ _ h => h) (by rfl) ?ya4 (by assumption) ?ra4
      case ya4 => (intro w hSw; (try dsimp only at hSw); go_simp; try with_reducible rfl)
      try simp only [Act.put, List.setIfInBounds_toArray, List.set_cons_zero, List.set_cons_succ]
      refine st_one (i := 5) rfl (by kernel_rfl) (by rfl) (fun Kq hK => ?_)
      go_simp
      go_at_call 56
      refine (kidsBk_any ks HKids.out w2.drew B d S P2 HCC.out.1 HCC.out.2 (HP2.out.below (Below.refl w2.heap.size w2).drew) (by omega) hld (HE2.out.below (Below.refl w2.heap.size w2).drew) (fun b hb => by have h1 := HS.out b hb; have h2 := HB2.out.size; exact Nat.lt_of_lt_of_le h1 h2)).mono ?_
      rintro e w3 ⟨v, rfl, hO3, hb3⟩
      replace hb3 : Below w2.heap.size w2 w3 := bundrew hb3
      have HO3 := Lib.hid hO3
      have HB3 := Lib.hid hb3
      have HR3 := Lib.hid (HR2.out.below hb3 HR2.out.lt)
      have t0b : w3.cell? ⟨T3, 0, none⟩ = some (.int .i64 (i : Int)) := (hb3.cell (p := ⟨T3, 0, none⟩) zT).trans t0
      have t2b : w3.cell? ⟨T3, 2, none⟩ = some (.slice B ks.length d) := (hb3.cell (p := ⟨T3, 2, none⟩) zT).trans t2
      obtain ⟨Av, cv, ev, hlv, hcv, _⟩ := hO3.form
      obtain ⟨nv, hnv⟩ : ∃ nv, nv = (bkL g n ks).length := ⟨_, rfl⟩
      have HNv := Lib.hid hnv
      rw [← hnv] at ev
      subst ev
      have q0 := HR3.out.cell 0
      have q1 := HR3.out.cell 1
      have q2 := HR3.out.cell 2
      have f0 := HR3.out.frozen 0
      have f1 := HR3.out.frozen 1
      have f2 := HR3.out.frozen 2
      have zR := HR3.out.lt
      simp at q0 q1 q2
      clear hO3 hb3 hnv hlv
      refine hK.out _ _ ?ha5 (fun hHeld => ?ra5)
      case ha5 => ((try dsimp only); go_keep)
      clear hK Kq
      try simp only [Act.put, List.setIfInBounds_toArray, List.set_cons_zero, List.set_cons_succ]
      refine st_pure (i := 6) (v := ?va6) rfl (by kernel_rfl) (by kernel_rfl) (by kernel_rfl) (by kernel_rfl) (fun _ _ _ h => h) (by rfl) ?ya6 (.inl (by assumption)) ?ra6
      case ya6 => (intro w; go_simp; try with_reducible rfl)
      try simp only [Act.put, List.setIfInBounds_toArray, List.set_cons_zero, List.set_cons_succ]
      refine st_late (i := 7) rfl (by kernel_rfl) (by rfl) (by kernel_rfl) (fun Kq hK => ?_)
      go_simp
      refine hK.out _ _ ?_
      clear hK Kq
      try simp only [Act.put, List.setIfInBounds_toArray, List.set_cons_zero, List.set_cons_succ]
      refine wpAnyD_done (by kernel_rfl) ?_ _
      refine NoPanic.normal ?_
      go_wp2_with fail
      generalize hwF : World.setCell _ _ _ = wF
      obtain ⟨hRF, kF⟩ := set3 HR3.out (.int .i64 (i : Int)) (.int .i64 0) (.slice Av nv cv)
      rw [hwF] at hRF kF
      have u0 : wF.cell? ⟨R4, 0, none⟩ = some (.int .i64 (i : Int)) := hRF.cell 0
      have u1 : wF.cell? ⟨R4, 1, none⟩ = some (.int .i64 0) := hRF.cell 1
      have u2 : wF.cell? ⟨R4, 2, none⟩ = some (.slice Av nv cv) := hRF.cell 2
      have hz := HZ.out
      have hz2 := HB2.out.size
      have hz4 := HZ2.out
      have hz3 := HB3.out.size
      have hnv := HNv.out
      obtain ⟨_, e2, e3, e4⟩ := HO3.out.vl.els
      have hth : bkT g n ⟨(i : Int), 0, ks⟩ = ⟨(i : Int), 0, bkL g n ks⟩ := by rw [bkT_eq, if_neg (by omega), HTl.out, if_pos htv0]
      refine bodyPost_ret (v := .agg #[.int .i64 (i : Int), .int .i64 0, .slice Av nv cv]) (by simp [results, Try.results29, go_sem, u0, u1, u2]) rfl ?_
      rw [hth]
      exact ⟨Av, cv, by rw [hnv]; rfl, HI1.out, (show I64 0 from ⟨by decide, by decide⟩), e2, hcv, (e4.kept kF (fun b hb h => by have h1 := hb.1.resolve_left id; have h2 : w2.heap.size ≤ b := h1; omega)).keep (fun _ _ _ => rfl) (fun b hb => ⟨by have h1 := hb.1.resolve_left id; have h2 : w2.heap.size ≤ b := h1; omega, Nat.lt_of_lt_of_le hb.2 kF.size⟩), (bthen HB2.out HB3.out hz2).trans (kF.to_below (B := w.heap.size) (fun b hb => by omega) (by omega))⟩
    · obtain ⟨_, hrec, ks1, x, rfl, hks1, hvx⟩ := HCs.out.resolve_left (fun h => by omega)
      have hk4 : ks1.length ≤ 4 := by rw [vts_same ks1 q.right hks1]; exact HQ.out.2.2.2.1
      have t2 : w2.cell? ⟨T3, 2, none⟩ = some (.slice B (ks1.length + 1) d) := by have h := HT2.out.cell 2; simpa using h
      have hld' : ks1.length + 1 ≤ d := by simpa using hld
      have HKids : Hid (∀ k ∈ ks1, BkOk P gT g n (some ⟨bq, oq, none⟩) A1 A2 c c1 c2 Sg Sp k) := Lib.hid (fun k hk => by
        obtain ⟨s', h1, h2⟩ := vts_mem ks1 q.right hks1 k hk
        have h3 := nodes_mem hk
        have hn := HNd.out
        simp only [nodesT, nodesL_append] at hn
        exact HIh.out k s' (by omega) h2 (sym_old HV.out hgn (List.mem_of_getElem? HQ.out.1) h1))
      have HNx : Hid (nodesT x ≤ N) := Lib.hid (by have hn := HNd.out; simp only [nodesT, nodesL_append, nodesL] at hn; omega)
      have HVx := Lib.hid hvx
      have HEt : Hid (Els w2 S ks1 B) := Lib.hid (by have h := HE2.out.takeS ks1.length; rwa [List.take_left' rfl] at h)
      obtain ⟨bx, ox, Ax, dx, eB, hSbx, hbbx, ix1, ix2, hxl, hxc, hEx, x0, x1, x2⟩ := HE2.out.tree (k := ks1.length) (x := x) (by simp)
      have HX := Lib.hid (And.intro ix1 (And.intro ix2 (And.intro hxl (And.intro hxc (And.intro hSbx hEx)))))
      have htn : (n : Int) ≤ tv := by rcases (tailI_rng (g := g) (n := n) (k := l)) with h | h <;> rw [← HTv.out] at h <;> omega
      have hwk : IntKind.i64.wrap (ks1.length : Int) = (ks1.length : Int) := IntWalk.i64_in _ (by omega)
      have hc1 : (ks1.length : Int) ≤ (d : Int) := by omega
      have hc2' : (0 : Int) ≤ (ks1.length : Int) := by omega
      have HCC := Lib.hid (And.intro c2c zC)
      have HB0 : Hid (bkT g n ⟨(i : Int), 0, ks1 ++ [x]⟩ = bkX g n ⟨(i : Int), 0, bkL g n ks1⟩ x) := Lib.hid (by rw [bkT_eq, if_neg (by omega), HTl.out, if_neg (by omega), bkW_snoc]; rfl)
      clear hks1 hvx ix1 ix2 hxl hxc hEx
      subst eB
      have T2c := Lib.hid t2
      have HXc := Lib.hid (And.intro x0 (And.intro x1 (And.intro x2 hbbx)))
      go_upto_region 7 with (fail)
      refine wp_region_noPanic ?_
      refine stage_start (S := (fun w' => w'.cell? ⟨T3, 0, none⟩ = some (.int .i64 (i : Int)) ∧ w'.cell? ⟨T3, 2, none⟩ = some (.slice (some ⟨bx, ox, none⟩) (ks1.length + 1) d))) 10 (by kernel_rfl) ?hc (fun hHeld => ?bc)
      case hc => ((try dsimp only); go_keep)
      refine st_pure (i := 0) (v := ?vc0) rfl (by kernel_rfl) (by kernel_rfl) (by kernel_rfl) (by kernel_rfl) (fun _ _ _ h => h) (by rfl) ?yc0 (.inl (by assumption)) ?rc0
      case yc0 => (intro w; go_simp; try with_reducible rfl)
      try simp only [Act.put, List.setIfInBounds_toArray, List.set_cons_zero, List.set_cons_succ]
      refine st_run (i := 1) (v := ?vc1) rfl (by kernel_rfl) (by kernel_rfl) (by kernel_rfl) (by kernel_rfl) (fun _ _ _ h => h) (by rfl) ?yc1 (by assumption) ?rc1
      case yc1 => (intro w hSw; (try dsimp only at hSw); go_simp; try with_reducible rfl)
      try simp only [Act.put, List.setIfInBounds_toArray, List.set_cons_zero, List.set_cons_succ]
      refine st_pure (i := 2) (v := ?vc2) rfl (by kernel_rfl) (by kernel_rfl) (by kernel_rfl) (by kernel_rfl) (fun _ _ _ h => h) (by rfl) ?yc2 (.inl (by assumption)) ?rc2
      case yc2 => (intro w; go_simp; try with_reducible rfl)
      try simp only [Act.put, List.setIfInBounds_toArray, List.set_cons_zero, List.set_cons_succ]
      refine st_pure (i := 3) (v := ?vc3) rfl (by kernel_rfl) (by kernel_rfl) (by kernel_rfl) (by kernel_rfl) (fun _ _ _ h => h) (by rfl) ?yc3 (.inl (by assumption)) ?rc3
      case yc3 => (intro w; go_simp; try with_reducible rfl)
      try simp only [Act.put, List.setIfInBounds_toArray, List.set_cons_zero, List.set_cons_succ]
      refine st_run (i := 4) (v := ?vc4) rfl (by kernel_rfl) (by kernel_rfl) (by kernel_rfl) (by kernel_rfl) (fun _ _ _ h => h) (by rfl) ?yc4 (by assumption) ?rc4
      case yc4 => (intro w hSw; (try dsimp only at hSw); go_simp; try with_reducible rfl)
      try simp only [Act.put, List.setIfInBounds_toArray, List.set_cons_zero, List.set_cons_succ]
      refine st_pure (i := 5) (v := ?vc5) rfl (by kernel_rfl) (by kernel_rfl) (by kernel_rfl) (by kernel_rfl) (fun _ _ _ h => h) (by rfl) ?yc5 (.inl (by assumption)) ?rc5
      case yc5 => (intro w; go_simp; try with_reducible rfl)
      try simp only [Act.put, List.setIfInBounds_toArray, List.set_cons_zero, List.set_cons_succ]
      refine st_pure (i := 6) (v := ?vc6) rfl (by kernel_rfl) (by kernel_rfl) (by kernel_rfl) (by kernel_rfl) (fun _ _ _ h => h) (by rfl) ?yc6 (.inl (by assumption)) ?rc6
      case yc6 => (intro w; go_simp; try with_reducible rfl)
      try simp only [Act.put, List.setIfInBounds_toArray, List.set_cons_zero, List.set_cons_succ]
      refine st_two (i := 7) (j := 9) rfl rfl (by kernel_rfl) (by rfl) (by rfl) (fun Kq hK => ?onec7) (fun Kq hK => ?twoc7)
      case onec7 =>
        go_simp
        go_at_call 56
        refine (kidsBk_any ks1 HKids.out w2.drew (some ⟨bx, ox, none⟩) d S P2 HCC.out.1 HCC.out.2 (HP2.out.below (Below.refl w2.heap.size w2).drew) (by omega) (by omega) (HEt.out.below (Below.refl w2.heap.size w2).drew) (fun b hb => by have h1 := HS.out b hb; have h2 := HB2.out.size; have h3 := ((Below.refl w2.heap.size w2).drew).size; exact Nat.lt_of_lt_of_le h1 (Nat.le_trans h2 h3))).mono ?_
        rintro e' w3 ⟨v, rfl, hOw3, hbw3⟩
        replace hbw3 : Below w2.heap.size w2 w3 := bundrew hbw3
        obtain ⟨Av, cv, ev, hlv, hcv, _⟩ := hOw3.form
        obtain ⟨nv, hnv⟩ : ∃ nv, nv = (bkL g n ks1).length := ⟨_, rfl⟩
        have HNv := Lib.hid hnv
        rw [← hnv] at ev hlv
        subst ev
        have HLv := Lib.hid (And.intro hlv hcv)
        clear hnv hlv hcv
        have t0a : w3.cell? ⟨T3, 0, none⟩ = some (.int .i64 (i : Int)) := (hbw3.cell (p := ⟨T3, 0, none⟩) zT).trans t0
        have t2a : w3.cell? ⟨T3, 2, none⟩ = some (.slice (some ⟨bx, ox, none⟩) (ks1.length + 1) d) := (hbw3.cell (p := ⟨T3, 2, none⟩) zT).trans t2
        have zTa : T3 < w3.heap.size := Nat.lt_of_lt_of_le zT hbw3.size
        refine hK.out _ _ ?hca7 (fun hHeld => ?rca7)
        case hca7 => ((try dsimp only); go_keep)
        clear hK Kq
        try simp only [Act.put, List.setIfInBounds_toArray, List.set_cons_zero, List.set_cons_succ]
        refine st_pure (i := 8) (v := ?vca8) rfl (by kernel_rfl) (by kernel_rfl) (by kernel_rfl) (by kernel_rfl) (fun _ _ _ h => h) (by rfl) ?yca8 (.inl (by assumption)) ?rca8
        case yca8 => (intro w; go_simp; try with_reducible rfl)
        try simp only [Act.put, List.setIfInBounds_toArray, List.set_cons_zero, List.set_cons_succ]
        refine st_one (i := 9) rfl (by kernel_rfl) (by rfl) (fun Kq hK => ?_)
        go_simp
        refine hK.out _ _ ?hca9 (fun hHeld => ?rca9)
        case hca9 => ((try dsimp only); go_keep)
        clear hK Kq
        try simp only [Act.put, List.setIfInBounds_toArray, List.set_cons_zero, List.set_cons_succ]
        refine st_late (i := 10) rfl (by kernel_rfl) (by rfl) (by kernel_rfl) (fun Kq hK => ?_)
        go_simp
        refine hK.out _ _ ?_
        clear hK Kq
        try simp only [Act.put, List.setIfInBounds_toArray, List.set_cons_zero, List.set_cons_succ]
        refine wpAnyD_done (by kernel_rfl) ?_ _
        refine NoPanic.normal ?_
        obtain ⟨O7, hO7⟩ : ∃ b, b = w3.heap.size := ⟨_, rfl⟩
        obtain ⟨w4, hw4⟩ : ∃ w4 : World, w4 = w3.alloc (.cells #[.int .i64 (i : Int), .int .i64 0, .slice Av nv cv] 47) := ⟨_, rfl⟩
        rw [← hO7, ← hw4]
        have hb4 : Below w3.heap.size w3 w4 := by rw [hw4]; exact (Below.refl _ _).alloc (Nat.le_refl _) _
        have HB24 := Lib.hid (bthen hbw3 hb4 hbw3.size)
        have HO7 : Hid (w2.heap.size ≤ O7 ∧ Blk' w4 O7 47 #[.int .i64 (i : Int), .int .i64 0, .slice Av nv cv] ∧ Els w4 (fun b => w2.heap.size ≤ b ∧ b < w4.heap.size ∧ b ≠ O7) (bkL g n ks1) Av) := Lib.hid ⟨by rw [hO7]; exact hbw3.size, by rw [hw4, hO7]; exact Blk'.new _ _ _, ((hOw3.vl.els).2.2.2.below hb4).keep (fun _ _ _ => rfl) (fun b hb => by have h1 : w2.heap.size ≤ b := hb.1.resolve_left id; have h2 := hb.2; have h3 := hb4.size; exact ⟨h1, by omega, by omega⟩)⟩
        have HB4 := Lib.hid (bthen HB2.out HB24.out HB2.out.size)
        clear hO7 hw4 hb4 hbw3 hOw3 t0 t2 zT t0a t2a zTa x0 x1 x2 hbbx c2c zC
        have t2 : w4.cell? ⟨T3, 2, none⟩ = some (.slice (some ⟨bx, ox, none⟩) (ks1.length + 1) d) := (HB24.out.cell (p := ⟨T3, 2, none⟩) HT2.out.lt).trans T2c.out
        have zT : T3 < w4.heap.size := Nat.lt_of_lt_of_le HT2.out.lt HB24.out.size
        obtain ⟨xl, hxle⟩ : ∃ xl, xl = x.kids.length := ⟨_, rfl⟩
        have HXl := Lib.hid hxle
        have x0 : w4.cell? ⟨bx, ox + ks1.length * 3, none⟩ = some (.int .i64 x.rule) := (HB24.out.cell (p := ⟨bx, ox + ks1.length * 3, none⟩) HXc.out.2.2.2).trans HXc.out.1
        have x1 : w4.cell? ⟨bx, ox + ks1.length * 3 + 1, none⟩ = some (.int .i64 x.term) := (HB24.out.cell (p := ⟨bx, ox + ks1.length * 3 + 1, none⟩) HXc.out.2.2.2).trans HXc.out.2.1
        have x2 : w4.cell? ⟨bx, ox + ks1.length * 3 + 1 + 1, none⟩ = some (.slice Ax xl dx) := by rw [hxle]; exact (HB24.out.cell (p := ⟨bx, ox + ks1.length * 3 + 1 + 1, none⟩) HXc.out.2.2.2).trans HXc.out.2.2.1
        have zbx : bx < w4.heap.size := Nat.lt_of_lt_of_le HXc.out.2.2.2 HB24.out.size
        have hm0 : (0 : Int) ≤ (ks1.length : Int) := by omega
        have hm1 : (ks1.length : Int) < (ks1.length : Int) + 1 := by omega
        obtain ⟨w5, hw5⟩ : ∃ w5 : World, w5 = w4.alloc (.cells #[.int .i64 x.rule, .int .i64 x.term, .slice Ax xl dx] 47) := ⟨_, rfl⟩
        have HW5 := Lib.hid hw5
        obtain ⟨X8, hX8⟩ : ∃ b, b = w4.heap.size := ⟨_, rfl⟩
        have hb5 : Below w4.heap.size w4 w5 := by rw [hw5]; exact (Below.refl _ _).alloc (Nat.le_refl _) _
        have HB5 := Lib.hid (bthen HB4.out hb5 HB4.out.size)
        have HB25 : Hid (Below w2.heap.size w2 w5) := Lib.hid (bthen HB24.out hb5 HB24.out.size)
        have HZ7 : Hid (w.heap.size ≤ O7 ∧ O7 < X8 ∧ R4 < X8 ∧ R4 ≠ O7 ∧ X8 < w5.heap.size) := Lib.hid (by
          have h1 := HO7.out.1
          have h2 := HO7.out.2.1.lt
          have h3 := HR2.out.lt
          have h4 := HB24.out.size
          have h5 := HB2.out.size
          rw [hX8]
          exact ⟨by omega, h2, by omega, by omega, by rw [hw5]; simp⟩)
        have HL0 : Hid (LbL O7 X8 R4 S g n tv w.heap.size ⟨(i : Int), 0, ks1 ++ [x]⟩ (fun b => b = O7 ∨ b = X8) w5 w5 ⟨(i : Int), 0, bkL g n ks1⟩ x Ax Av dx cv) := Lib.hid ⟨by rw [show (Tree.mk (i : Int) 0 (bkL g n ks1)).kids.length = nv from HNv.out.symm]; exact HO7.out.2.1.below hb5 HO7.out.2.1.lt, by rw [← hxle, hw5, hX8]; exact Blk'.new _ _ _, ⟨by have := HZ7.out; omega, by have := HZ7.out; omega, by have := HZ7.out; omega, .inl (.inr rfl)⟩, HX.out.1, HX.out.2.1, HX.out.2.2.1, HX.out.2.2.2.1, ((HX.out.2.2.2.2.2.below HB24.out).below hb5), HI1.out, (show I64 0 from ⟨by decide, by decide⟩), by rw [show (Tree.mk (i : Int) 0 (bkL g n ks1)).kids.length = nv from HNv.out.symm]; exact HLv.out.1, HLv.out.2, (HO7.out.2.2.below hb5).keep (fun _ _ _ => rfl) (fun b hb => by
            have h1 := hb.1
            have h2 := hb.2.1
            have h3 := HB2.out.size
            have h4 := HR2.out.lt
            have h5 := hb5.size
            exact ⟨by omega, by omega, hb.2.2, by omega, by omega⟩), HVx.out, HB0.out, Kept.refl _ _⟩
        have HNx1 : Hid (nodesT x ≤ N + 1 ∧ nodesT x ≤ N) := Lib.hid ⟨Nat.le_succ_of_le HNx.out, HNx.out⟩
        clear hb5 hxle hw5
        go_upto_region 9 with (fail)
        rw [← HW5.out, ← hX8]
        clear t2 zT x0 x1 x2 zbx hm0 hm1 hX8
        go_loopg [8] (N + 1) (fun gk p wr => ∃ (XB : Nat) (o x' : Tree) (Bx Ao : Option Addr) (dx dO : Nat), p = .pointer (some ⟨XB, 0, none⟩) ∧ LbL O7 XB R4 S g n tv w.heap.size ⟨(i : Int), 0, ks1 ++ [x]⟩ (fun b => b = O7 ∨ b = X8) w5 wr o x' Bx Ao dx dO ∧ nodesT x' ≤ gk ∧ nodesT x' ≤ N)
        case atStart => exact ⟨X8, _, _, _, _, _, _, rfl, HL0.out, HNx1.out.1, HNx1.out.2⟩
        case round =>
          obtain ⟨wo, hwo⟩ : ∃ wo : World, wo = wr := ⟨_, rfl⟩
          subst hwo
          obtain ⟨XB, o, x', By, Ao, dy, dO, rfl, hL, hgk, hgN⟩ := hrel
          have hbo : Below w.heap.size w wo := HB5.out.trans (hL.kept.to_below (B := w.heap.size) (fun b hb => by have := HZ7.out; rcases hb with rfl | rfl <;> omega) HB5.out.size)
          have HBo := Lib.hid hbo
          have HPo := Lib.hid (HP.out.below hbo)
          have HKL := Lib.hid hL.kept
          have HCo := Lib.hid ((HC2.out.below HB25.out HC2.out.lt).kept hL.kept (fun h => by have := HZ7.out; have h2 := HC2.out.lt; have h3 := HO7.out.1; have h4 := HZ.out; have h5 := HR2.out.lt; rcases h with h | h <;> omega))
          have HRo := Lib.hid ((HR2.out.below HB25.out HR2.out.lt).kept hL.kept (fun h => by have := HZ7.out; rcases h with h | h <;> omega))
          obtain ⟨xr, xt, xk⟩ := x'
          obtain ⟨hxt, j, hxr, hcs⟩ := vtOut_tail HV.out hgn hL.vx htn
          subst hxt
          subst hxr
          have HL := Lib.hid hL
          have HNq := Lib.hid (And.intro hgk hgN)
          have hjF : j < (fromL g n).length := by
            have e : (fromL g n).length = g.rules.length + cntRec g n := by unfold fromL; rw [List.length_append, idxL_len, List.length_replicate]
            rw [e]
            rcases hcs with ⟨_, h2, _⟩ | ⟨q', h1, _⟩
            · omega
            · have := (List.getElem?_eq_some_iff.1 h1).1
              omega
          obtain ⟨fv, hfv⟩ := get_some hjF
          have hfe : fv = if j < g.rules.length then (j : Int) else -1 := by
            unfold fromL at hfv
            rw [List.getElem?_append, idxL_len] at hfv
            split at hfv
            · rename_i h
              rw [if_pos h]
              unfold idxL at hfv
              rw [List.getElem?_map, List.getElem?_range h] at hfv
              simp at hfv
              exact hfv.symm
            · rename_i h
              rw [if_neg h]
              rw [List.getElem?_replicate] at hfv
              split at hfv
              · injection hfv with hfv; exact hfv.symm
              · cases hfv
          obtain ⟨bf, of_, eA2, hSf, hbf, hfi, cf⟩ := HPo.out.frm.int hfv
          have c2c : wo.cell? ⟨P2, 0, none⟩ = some (.pointer (some ⟨P, 0, none⟩)) := HCo.out.cell 0
          have zC : P2 < wo.heap.size := HCo.out.lt
          have p9 : wo.cell? ⟨P, 9, none⟩ = some (.slice (some ⟨bf, of_, none⟩) (fromL g n).length c2) := by have h := HPo.out.ptr.cell 9; rw [eA2] at h; exact h
          have zP : P < wo.heap.size := HPo.out.ptr.lt
          have x0 : wo.cell? ⟨XB, 0, none⟩ = some (.int .i64 (j : Int)) := hL.xb.cell 0
          have zX : XB < wo.heap.size := hL.xb.lt
          have hj9 : (j : Int) < ((fromL g n).length : Int) := by omega
          have hj0 : (0 : Int) ≤ (j : Int) := by omega
          clear hL hgk hgN hfv hfi hSf hbo hjF
          rcases hcs with ⟨hge, _, hkn, hk⟩ | ⟨q', hq', hrec', hti, ks2, y, hxk, hks2, hvy⟩
          · subst hkn
            have hf1 : fv = -1 := by rw [hfe, if_neg (by omega)]
            subst hf1
            clear hfe
            go_upto_region 9 with (fail)
            go_quiet (fail)
            obtain ⟨wq, hwq⟩ : ∃ wq : World, wq = wo.drewN nq := ⟨_, rfl⟩
            have hbq : Below wo.heap.size wo wq := by rw [hwq]; exact bdrewN (Below.refl _ _)
            rw [← hwq]
            have HOq := Lib.hid (HL.out.ob.below hbq HL.out.ob.lt)
            have HRq := Lib.hid (HRo.out.below hbq HRo.out.lt)
            have HOe := Lib.hid (HL.out.oe.below hbq)
            have HBq := Lib.hid (bthen HBo.out hbq HBo.out.size)
            have HWq : Hid (wo.heap.size ≤ wq.heap.size) := Lib.hid hbq.size
            obtain ⟨ol, hol⟩ : ∃ ol, ol = o.kids.length := ⟨_, rfl⟩
            have HOl := Lib.hid hol
            have o0 : wq.cell? ⟨O7, 0, none⟩ = some (.int .i64 o.rule) := HOq.out.cell 0
            have o1 : wq.cell? ⟨O7, 1, none⟩ = some (.int .i64 o.term) := HOq.out.cell 1
            have o2 : wq.cell? ⟨O7, 2, none⟩ = some (.slice Ao ol dO) := by rw [hol]; exact HOq.out.cell 2
            have zO : O7 < wq.heap.size := HOq.out.lt
            have q0 := HRq.out.cell 0
            have q1 := HRq.out.cell 1
            have q2 := HRq.out.cell 2
            have f0 := HRq.out.frozen 0
            have f1 := HRq.out.frozen 1
            have f2 := HRq.out.frozen 2
            have zR := HRq.out.lt
            simp at q0 q1 q2
            clear hwq hbq c2c zC p9 zP x0 zX cf hbf hol
            go_wp2_with fail
            generalize hwF : World.setCell _ _ _ = wF
            obtain ⟨hRF, kF⟩ := set3 HRq.out (.int .i64 o.rule) (.int .i64 o.term) (.slice Ao ol dO)
            rw [hwF] at hRF kF
            have u0 : wF.cell? ⟨R4, 0, none⟩ = some (.int .i64 o.rule) := hRF.cell 0
            have u1 : wF.cell? ⟨R4, 1, none⟩ = some (.int .i64 o.term) := hRF.cell 1
            have u2 : wF.cell? ⟨R4, 2, none⟩ = some (.slice Ao ol dO) := hRF.cell 2
            have hz := HZ.out
            have hbk : bkT g n ⟨(i : Int), 0, ks1 ++ [x]⟩ = o := by rw [HL.out.bk, bkX_eq, if_neg (by rw [Int.toNat_natCast]; omega)]
            refine bodyPost_ret (v := .agg #[.int .i64 o.rule, .int .i64 o.term, .slice Ao ol dO]) (by simp [results, Try.results29, go_sem, u0, u1, u2]) rfl ?_
            rw [hbk]
            exact ⟨Ao, dO, by rw [HOl.out], HL.out.o1, HL.out.o2, HL.out.o3, HL.out.o4, (HOe.out.kept kF (fun b hb h => hb.2.2.2.2 h)).keep (fun _ _ _ => rfl) (fun b hb => ⟨hb.1, by have h1 := hb.2.1; have h2 := kF.size; have h3 := HRq.out; exact Nat.lt_of_lt_of_le h1 (Nat.le_trans HWq.out h2)⟩), HBq.out.trans (kF.to_below (B := w.heap.size) (fun b hb => by omega) HBq.out.size)⟩
          · subst hxk
            have hjl : j < g.rules.length := (List.getElem?_eq_some_iff.1 hq').1
            have hf1 : fv = (j : Int) := by rw [hfe, if_pos hjl]
            subst hf1
            clear hfe
            have hqv' := HV.out.rules q' (List.mem_of_getElem? hq')
            have hk4' : ks2.length ≤ 4 := by rw [vts_same ks2 _ hks2, List.length_drop]; omega
            have HKi : Hid (∀ k ∈ ks2, BkOk P gT g n (some ⟨bq, oq, none⟩) A1 A2 c c1 c2 Sg Sp k) := Lib.hid (fun k hk => by
              obtain ⟨s', h1, h2⟩ := vts_mem ks2 _ hks2 k hk
              have h3 := nodes_mem hk
              have hn := HNq.out.2
              simp only [nodesT, nodesL_append] at hn
              exact HIh.out k s' (by omega) h2 (sym_old HV.out hgn (List.mem_of_getElem? hq') (List.mem_of_mem_drop h1)))
            have HVy := Lib.hid hvy
            go_upto_region 9 with (fail)
            go_quiet (fail)
            obtain ⟨wq, hwq⟩ : ∃ wq : World, wq = wo.drewN nq := ⟨_, rfl⟩
            have hbq : Below wo.heap.size wo wq := by rw [hwq]; exact bdrewN (Below.refl _ _)
            rw [← hwq]
            have HLq := Lib.hid (HL.out.below hbq)
            have HRq := Lib.hid (HRo.out.below hbq HRo.out.lt)
            have HCq : Hid (wq.cell? ⟨P2, 0, none⟩ = some (.pointer (some ⟨P, 0, none⟩)) ∧ P2 < wq.heap.size) := Lib.hid ⟨(hbq.cell (p := ⟨P2, 0, none⟩) zC).trans c2c, Nat.lt_of_lt_of_le zC hbq.size⟩
            have HPq := Lib.hid (HPo.out.below hbq)
            have HBq := Lib.hid (bthen HBo.out hbq HBo.out.size)
            obtain ⟨by_, oy, Aq2, dq, eBy, hSy, hbby, iy1, iy2, hyl, hyc, hEyk, y0, y1, y2⟩ := HLq.out.xe.tree (k := ks2.length) (x := y) (by show (ks2 ++ [y])[ks2.length]? = some y; simp)
            have HY := Lib.hid (And.intro iy1 (And.intro iy2 (And.intro hyl (And.intro hyc (And.intro hSy hEyk)))))
            have HEy : Hid (Els wq S ks2 By) := Lib.hid (by have h : Els wq S ((ks2 ++ [y]).take ks2.length) By := HLq.out.xe.takeS ks2.length; rwa [List.take_left' rfl] at h)
            have hyd : ks2.length + 1 ≤ dy := by have h : (ks2 ++ [y]).length ≤ dy := HLq.out.x3; simpa using h
            have hyd9 := HLq.out.x4
            subst eBy
            obtain ⟨yl, hyle⟩ : ∃ yl, yl = y.kids.length := ⟨_, rfl⟩
            have HYl := Lib.hid hyle
            rw [← hyle] at y2
            obtain ⟨ol, hol⟩ : ∃ ol, ol = o.kids.length := ⟨_, rfl⟩
            have HOl := Lib.hid hol
            have x0' : wq.cell? ⟨XB, 0, none⟩ = some (.int .i64 (j : Int)) := HLq.out.xb.cell 0
            have x2 : wq.cell? ⟨XB, 2, none⟩ = some (.slice (some ⟨by_, oy, none⟩) (ks2.length + 1) dy) := by have h : wq.cell? ⟨XB, 2, none⟩ = some (.slice (some ⟨by_, oy, none⟩) (ks2 ++ [y]).length dy) := HLq.out.xb.cell 2; simpa using h
            have o0 : wq.cell? ⟨O7, 0, none⟩ = some (.int .i64 o.rule) := HLq.out.ob.cell 0
            have o1 : wq.cell? ⟨O7, 1, none⟩ = some (.int .i64 o.term) := HLq.out.ob.cell 1
            have o2 : wq.cell? ⟨O7, 2, none⟩ = some (.slice Ao ol dO) := by rw [hol]; exact HLq.out.ob.cell 2
            clear x0 zX
            have x0 := x0'
            have zX : XB < wq.heap.size := HLq.out.xb.lt
            have zO : O7 < wq.heap.size := HLq.out.ob.lt
            have hwk2 : IntKind.i64.wrap (ks2.length : Int) = (ks2.length : Int) := IntWalk.i64_in _ (by omega)
            have hd1 : (ks2.length : Int) ≤ (dy : Int) := by omega
            have hd2 : (0 : Int) ≤ (ks2.length : Int) := by omega
            clear hwq hbq c2c zC p9 zP cf hbf hol hyle iy1 iy2 hyl hyc hSy hEyk hks2 hvy hqv' hq' hrec' hti x0'
            go_upto_region 11 with (fail)
            refine wp_region_noPanic ?_
            refine stage_start (S := (fun w' => w'.cell? ⟨XB, 0, none⟩ = some (.int .i64 (j : Int)) ∧ w'.cell? ⟨XB, 2, none⟩ = some (.slice (some ⟨by_, oy, none⟩) (ks2.length + 1) dy) ∧ w'.cell? ⟨O7, 0, none⟩ = some (.int .i64 o.rule) ∧ w'.cell? ⟨O7, 1, none⟩ = some (.int .i64 o.term) ∧ w'.cell? ⟨O7, 2, none⟩ = some (.slice Ao ol dO))) 12 (by kernel_rfl) ?hda (fun hHeld => ?bda)
            case hda => ((try dsimp only); go_keep)
            refine st_pure (i := 0) (v := ?vda0) rfl (by kernel_rfl) (by kernel_rfl) (by kernel_rfl) (by kernel_rfl) (fun _ _ _ h => h) (by rfl) ?yda0 (.inl (by assumption)) ?rda0
            case yda0 => (intro w; go_simp; try with_reducible rfl)
            try simp only [Act.put, List.setIfInBounds_toArray, List.set_cons_zero, List.set_cons_succ]
            refine st_run (i := 1) (v := ?vda1) rfl (by kernel_rfl) (by kernel_rfl) (by kernel_rfl) (by kernel_rfl) (fun _ _ _ h => h) (by rfl) ?yda1 (by assumption) ?rda1
            case yda1 => (intro w hSw; (try dsimp only at hSw); go_simp; try with_reducible rfl)
            try simp only [Act.put, List.setIfInBounds_toArray, List.set_cons_zero, List.set_cons_succ]
            refine st_run (i := 2) (v := ?vda2) rfl (by kernel_rfl) (by kernel_rfl) (by kernel_rfl) (by kernel_rfl) (fun _ _ _ h => h) (by rfl) ?yda2 (by assumption) ?rda2
            case yda2 => (intro w hSw; (try dsimp only at hSw); go_simp; try with_reducible rfl)
            try simp only [Act.put, List.setIfInBounds_toArray, List.set_cons_zero, List.set_cons_succ]
            refine st_pure (i := 4) (v := ?vda4) rfl (by kernel_rfl) (by kernel_rfl) (by kernel_rfl) (by kernel_rfl) (fun _ _ _ h => h) (by rfl) ?yda4 (.inl (by assumption)) ?rda4
            case yda4 => (intro w; go_simp; try with_reducible rfl)
            try simp only [Act.put, List.setIfInBounds_toArray, List.set_cons_zero, List.set_cons_succ]
            refine st_pure (i := 5) (v := ?vda5) rfl (by kernel_rfl) (by kernel_rfl) (by kernel_rfl) (by kernel_rfl) (fun _ _ _ h => h) (by rfl) ?yda5 (.inl (by assumption)) ?rda5
            case yda5 => (intro w; go_simp; try with_reducible rfl)
            try simp only [Act.put, List.setIfInBounds_toArray, List.set_cons_zero, List.set_cons_succ]
            refine st_run (i := 6) (v := ?vda6) rfl (by kernel_rfl) (by kernel_rfl) (by kernel_rfl) (by kernel_rfl) (fun _ _ _ h => h) (by rfl) ?yda6 (by assumption) ?rda6
            case yda6 => (intro w hSw; (try dsimp only at hSw); go_simp; try with_reducible rfl)
            try simp only [Act.put, List.setIfInBounds_toArray, List.set_cons_zero, List.set_cons_succ]
            refine st_pure (i := 7) (v := ?vda7) rfl (by kernel_rfl) (by kernel_rfl) (by kernel_rfl) (by kernel_rfl) (fun _ _ _ h => h) (by rfl) ?yda7 (.inl (by assumption)) ?rda7
            case yda7 => (intro w; go_simp; try with_reducible rfl)
            try simp only [Act.put, List.setIfInBounds_toArray, List.set_cons_zero, List.set_cons_succ]
            refine st_pure (i := 8) (v := ?vda8) rfl (by kernel_rfl) (by kernel_rfl) (by kernel_rfl) (by kernel_rfl) (fun _ _ _ h => h) (by rfl) ?yda8 (.inl (by assumption)) ?rda8
            case yda8 => (intro w; go_simp; try with_reducible rfl)
            try simp only [Act.put, List.setIfInBounds_toArray, List.set_cons_zero, List.set_cons_succ]
            refine st_two (i := 3) (j := 9) rfl rfl (by kernel_rfl) (by rfl) (by rfl) (fun Kq hK => ?oneda3) (fun Kq hK => ?twoda3)
            case oneda3 =>
              go_simp
              obtain ⟨w8a, hw8a⟩ : ∃ w : World, w = (wq.alloc (.cells #[.int .i64 o.rule, .int .i64 o.term, .slice Ao ol dO] 47)).drew := ⟨_, rfl⟩
              have hbw8a : Below wq.heap.size wq w8a := by rw [hw8a]; exact ((Below.refl _ _).alloc (Nat.le_refl _) _).drew
              have hzw8a : w8a.heap.size = wq.heap.size + 1 := by rw [hw8a]; simp
              have hLw8a : Own w8a (fun b => w.heap.size ≤ b ∧ b ≠ O7 ∧ b ≠ XB ∧ b ≠ R4) wq.heap.size 47 (.slice (some ⟨wq.heap.size, 0, none⟩) 1 1) [o] := by
                have hbe : Below wq.heap.size wq (wq.alloc (.cells #[.int .i64 o.rule, .int .i64 o.term, .slice Ao ol dO] 47)) := (Below.refl _ _).alloc (Nat.le_refl _) _
                have h := own_litT (w := wq) (S := fun b => w.heap.size ≤ b ∧ b ≠ O7 ∧ b ≠ XB ∧ b ≠ R4) (e := 47) (x := o) (cs := [.int .i64 o.rule, .int .i64 o.term, .slice Ao ol dO]) (rd_tree.2 ⟨_, rfl, HLq.out.o1, HLq.out.o2, Vl.of_slice HOl.out HLq.out.o3 HLq.out.o4 ((HLq.out.oe.below hbe).keep (fun _ _ _ => rfl) (fun b hb => ⟨⟨hb.1, hb.2.2⟩, Nat.lt_of_lt_of_le hb.2.1 (Nat.le_refl _)⟩))⟩)
                rw [hw8a]
                exact h.drew
              rw [← hw8a]
              clear hw8a
              have x0a : w8a.cell? ⟨XB, 0, none⟩ = some (.int .i64 (j : Int)) := (hbw8a.cell (p := ⟨XB, 0, none⟩) zX).trans x0
              have x2a : w8a.cell? ⟨XB, 2, none⟩ = some (.slice (some ⟨by_, oy, none⟩) (ks2.length + 1) dy) := (hbw8a.cell (p := ⟨XB, 2, none⟩) zX).trans x2
              have o0a : w8a.cell? ⟨O7, 0, none⟩ = some (.int .i64 o.rule) := (hbw8a.cell (p := ⟨O7, 0, none⟩) zO).trans o0
              have o1a : w8a.cell? ⟨O7, 1, none⟩ = some (.int .i64 o.term) := (hbw8a.cell (p := ⟨O7, 1, none⟩) zO).trans o1
              have o2a : w8a.cell? ⟨O7, 2, none⟩ = some (.slice Ao ol dO) := (hbw8a.cell (p := ⟨O7, 2, none⟩) zO).trans o2
              have zXa : XB < w8a.heap.size := Nat.lt_of_lt_of_le zX hbw8a.size
              have zOa : O7 < w8a.heap.size := Nat.lt_of_lt_of_le zO hbw8a.size
              refine hK.out _ _ ?hdap3 (fun hHeld => ?rdap3)
              case hdap3 => ((try dsimp only); go_keep)
              clear hK Kq
              try simp only [Act.put, List.setIfInBounds_toArray, List.set_cons_zero, List.set_cons_succ]
              refine st_one (i := 9) rfl (by kernel_rfl) (by rfl) (fun Kq hK => ?_)
              go_simp
              go_at_call 56
              refine (kidsBk_any ks2 HKi.out w8a (some ⟨by_, oy, none⟩) dy S P2 ((hbw8a.cell (p := ⟨P2, 0, none⟩) HCq.out.2).trans HCq.out.1) (Nat.lt_of_lt_of_le HCq.out.2 hbw8a.size) (HPq.out.below hbw8a) (by omega) (by omega) (HEy.out.below hbw8a) (fun b hb => by have h1 := HS.out b hb; have h2 := HBq.out.size; have h3 := (hbw8a).size; exact Nat.lt_of_lt_of_le h1 (Nat.le_trans h2 h3))).mono ?_
              rintro e' w8b ⟨v, rfl, hOw8b, hbw8b⟩
              obtain ⟨Ay, cy, ev, hly, hcy, _⟩ := hOw8b.form
              obtain ⟨ny, hny⟩ : ∃ ny, ny = (bkL g n ks2).length := ⟨_, rfl⟩
              have HNy := Lib.hid hny
              rw [← hny] at ev hly
              subst ev
              clear hcy hny
              have x0b : w8b.cell? ⟨XB, 0, none⟩ = some (.int .i64 (j : Int)) := (hbw8b.cell (p := ⟨XB, 0, none⟩) zXa).trans x0a
              have x2b : w8b.cell? ⟨XB, 2, none⟩ = some (.slice (some ⟨by_, oy, none⟩) (ks2.length + 1) dy) := (hbw8b.cell (p := ⟨XB, 2, none⟩) zXa).trans x2a
              have o0b : w8b.cell? ⟨O7, 0, none⟩ = some (.int .i64 o.rule) := (hbw8b.cell (p := ⟨O7, 0, none⟩) zOa).trans o0a
              have o1b : w8b.cell? ⟨O7, 1, none⟩ = some (.int .i64 o.term) := (hbw8b.cell (p := ⟨O7, 1, none⟩) zOa).trans o1a
              have o2b : w8b.cell? ⟨O7, 2, none⟩ = some (.slice Ao ol dO) := (hbw8b.cell (p := ⟨O7, 2, none⟩) zOa).trans o2a
              have zXb : XB < w8b.heap.size := Nat.lt_of_lt_of_le zXa hbw8b.size
              have zOb : O7 < w8b.heap.size := Nat.lt_of_lt_of_le zOa hbw8b.size
              refine hK.out _ _ ?hdap9 (fun hHeld => ?rdap9)
              case hdap9 => ((try dsimp only); go_keep)
              clear hK Kq
              try simp only [Act.put, List.setIfInBounds_toArray, List.set_cons_zero, List.set_cons_succ]
              refine st_one (i := 10) rfl (by kernel_rfl) (by rfl) (fun Kq hK => ?_)
              have hb8 : Below wq.heap.size wq w8b := bthen hbw8a hbw8b hbw8a.size
              have hO8 : Own w8b (fun b => w.heap.size ≤ b ∧ b ≠ O7 ∧ b ≠ XB ∧ b ≠ R4) wq.heap.size 47 (.slice (some ⟨wq.heap.size, 0, none⟩) 1 1) [o] := hLw8a.below hbw8b (Nat.le_refl _)
              have hys8 : Els w8b (OwnT (fun b => w.heap.size ≤ b ∧ b ≠ O7 ∧ b ≠ XB ∧ b ≠ R4) wq.heap.size (.slice (some ⟨wq.heap.size, 0, none⟩) 1 1) w8b) (bkL g n ks2) Ay := by
                refine (hOw8b.vl.els).2.2.2.keep (fun _ _ _ => rfl) (fun b hb => ?_)
                have h1 := hb.1.resolve_left id
                have h2 := hzw8a
                have h3 := HBq.out.size
                have h4 := HLq.out.ob.lt
                have h5 := HLq.out.xb.lt
                have h6 := HRq.out.lt
                exact ⟨.inl ⟨by omega, by omega, by omega, by omega⟩, (fun h => by injection h with h; dsimp only at h; omega), hb.2⟩
              refine wp_ownMany _ _ _ elemTree rfl rfl hO8 (bkL g n ks2) rfl HNy.out hys8 (by rw [bkL_map, List.length_map]; simp; omega) (by rw [bkL_map, List.length_map]; simp; omega) (by have := hb8.size; have := hbw8a.size; have := hbw8b.size; omega) ?_
              intro v' w9 hO9 hg9 _
              have hb9 : Below wq.heap.size wq w9 := bgrown hb8 hg9 hO8 (by have := hbw8a.size; first | exact Nat.le_refl _ | omega) hb8.size
              obtain ⟨Aw, cw, ev, hlw, hcw, _⟩ := hO9.form
              obtain ⟨nw, hnw⟩ : ∃ nw, nw = ([o] ++ bkL g n ks2).length := ⟨_, rfl⟩
              have HNw := Lib.hid hnw
              rw [← hnw] at ev hlw
              subst ev
              have HO9 : Hid (Own w9 (fun b => w.heap.size ≤ b ∧ b ≠ O7 ∧ b ≠ XB ∧ b ≠ R4) wq.heap.size 47 (.slice Aw nw cw) ([o] ++ bkL g n ks2)) := Lib.hid (hO9.base (by have := hbw8a.size; first | exact Nat.le_refl _ | omega))
              have HB9 := Lib.hid hb9
              have HLw := Lib.hid (And.intro hlw hcw)
              have x09 : w9.cell? ⟨XB, 0, none⟩ = some (.int .i64 (j : Int)) := (hb9.cell (p := ⟨XB, 0, none⟩) zX).trans x0
              have x29 : w9.cell? ⟨XB, 2, none⟩ = some (.slice (some ⟨by_, oy, none⟩) (ks2.length + 1) dy) := (hb9.cell (p := ⟨XB, 2, none⟩) zX).trans x2
              have o09 : w9.cell? ⟨O7, 0, none⟩ = some (.int .i64 o.rule) := (hb9.cell (p := ⟨O7, 0, none⟩) zO).trans o0
              have o19 : w9.cell? ⟨O7, 1, none⟩ = some (.int .i64 o.term) := (hb9.cell (p := ⟨O7, 1, none⟩) zO).trans o1
              have o29 : w9.cell? ⟨O7, 2, none⟩ = some (.slice Ao ol dO) := (hb9.cell (p := ⟨O7, 2, none⟩) zO).trans o2
              have zX9 : XB < w9.heap.size := Nat.lt_of_lt_of_le zX hb9.size
              have zO9 : O7 < w9.heap.size := Nat.lt_of_lt_of_le zO hb9.size
              have HOb9 := Lib.hid (HLq.out.ob.below hb9 HLq.out.ob.lt)
              have fo0 := HOb9.out.frozen 0
              have fo1 := HOb9.out.frozen 1
              have fo2 := HOb9.out.frozen 2
              clear hO9 hg9 hnw hlw hcw hb8 hO8 hys8 hly hb9 hbw8a hbw8b hLw8a hOw8b hzw8a
              refine hK.out _ _ ?hdap10 (fun hHeld => ?rdap10)
              case hdap10 => ((try dsimp only); go_keep)
              clear hK Kq
              try simp only [Act.put, List.setIfInBounds_toArray, List.set_cons_zero, List.set_cons_succ]
              refine st_pure (i := 11) (v := ?vdap11) rfl (by kernel_rfl) (by kernel_rfl) (by kernel_rfl) (by kernel_rfl) (fun _ _ _ h => h) (by rfl) ?ydap11 (.inl (by assumption)) ?rdap11
              case ydap11 => (intro w; go_simp; try with_reducible rfl)
              try simp only [Act.put, List.setIfInBounds_toArray, List.set_cons_zero, List.set_cons_succ]
              refine st_late (i := 12) rfl (by kernel_rfl) (by rfl) (by kernel_rfl) (fun Kq hK => ?_)
              go_simp
              refine hK.out _ _ ?_
              clear hK Kq
              try simp only [Act.put, List.setIfInBounds_toArray, List.set_cons_zero, List.set_cons_succ]
              refine wpAnyD_done (by kernel_rfl) ?_ _
              refine NoPanic.normal ?_
              go_upto_region 12 with (fail)
              generalize hwX : World.setCell _ _ _ = wX
              obtain ⟨hOX, kX⟩ := set3 HOb9.out (.int .i64 (j : Int)) (.int .i64 0) (.slice Aw nw cw)
              rw [hwX] at hOX kX
              have hne := HLq.out.ne
              have HKX : Hid (Kept (fun b => b = O7) wq wX) := Lib.hid ((Kept.of_below (fun b => b = O7) HB9.out).trans kX)
              have hXX := HLq.out.xb.kept HKX.out (fun h => hne.1 h.symm)
              have HOX := Lib.hid hOX
              have HOE : Hid (Els wX (fun b => w.heap.size ≤ b ∧ b < wX.heap.size ∧ b ≠ O7 ∧ b ≠ XB ∧ b ≠ R4) ([o] ++ bkL g n ks2) Aw) := Lib.hid (((HO9.out.vl.els).2.2.2.kept kX (fun b hb h => by
                rcases hb.1 with h1 | h1
                · exact h1.2.1 h
                · have h2 := HLq.out.ob.lt
                  omega)).keep (fun _ _ _ => rfl) (fun b hb => by
                have h3 := Nat.lt_of_lt_of_le hb.2 kX.size
                have h4 := HLq.out.ob.lt
                have h5 := HLq.out.xb.lt
                have h6 := HRq.out.lt
                have h7 := HBq.out.size
                rcases hb.1 with h1 | h1
                · exact ⟨h1.1, h3, h1.2⟩
                · exact ⟨by omega, h3, by omega, by omega, by omega⟩))
              have hyO : ¬ by_ = O7 := fun h => by have h1 := HS.out by_ HY.out.2.2.2.2.1; have h2 := HZ7.out; omega
              have hyX : ¬ by_ = XB := fun h => by have h1 := HS.out by_ HY.out.2.2.2.2.1; have h2 := hne.2.2.1; omega
              have y0x : wX.cell? ⟨by_, oy + ks2.length * 3, none⟩ = some (.int .i64 y.rule) := (HKX.out.cell (p := ⟨by_, oy + ks2.length * 3, none⟩) hbby hyO).trans y0
              have y1x : wX.cell? ⟨by_, oy + ks2.length * 3 + 1, none⟩ = some (.int .i64 y.term) := (HKX.out.cell (p := ⟨by_, oy + ks2.length * 3 + 1, none⟩) hbby hyO).trans y1
              have y2x : wX.cell? ⟨by_, oy + ks2.length * 3 + 1 + 1, none⟩ = some (.slice Aq2 yl dq) := (HKX.out.cell (p := ⟨by_, oy + ks2.length * 3 + 1 + 1, none⟩) hbby hyO).trans y2
              have zby : by_ < wX.heap.size := Nat.lt_of_lt_of_le hbby HKX.out.size
              have X0 : wX.cell? ⟨XB, 0, none⟩ = some (.int .i64 (j : Int)) := hXX.cell 0
              have X1 : wX.cell? ⟨XB, 1, none⟩ = some (.int .i64 0) := hXX.cell 1
              have X2 : wX.cell? ⟨XB, 2, none⟩ = some (.slice (some ⟨by_, oy, none⟩) (ks2.length + 1) dy) := by have h : wX.cell? ⟨XB, 2, none⟩ = some (.slice (some ⟨by_, oy, none⟩) (ks2 ++ [y]).length dy) := hXX.cell 2; simpa using h
              have fX0 := hXX.frozen 0
              have fX1 := hXX.frozen 1
              have fX2 := hXX.frozen 2
              have zXX := hXX.lt
              have HXX := Lib.hid hXX
              have hm0 : (0 : Int) ≤ (ks2.length : Int) := by omega
              have hm1 : (ks2.length : Int) < (ks2.length : Int) + 1 := by omega
              clear hwX hOX kX hXX x0 x2 o0 o1 o2 zX zO x09 x29 o09 o19 o29 zX9 zO9 fo0 fo1 fo2 y0 y1 y2 hne hyO
              go_wp2_with fail
              generalize hwY : World.setCell _ _ _ = wY
              obtain ⟨hXY, kY⟩ := set3 HXX.out (.int .i64 y.rule) (.int .i64 y.term) (.slice Aq2 yl dq)
              rw [hwY] at hXY kY
              have hYX : wY.heap.size = wX.heap.size := by rw [← hwY]; simp [World.setCell]
              obtain ⟨wV, hwV⟩ : ∃ wV : World, wV = wY.alloc (.cells #[.int .i64 y.rule, .int .i64 y.term, .slice Aq2 yl dq] 47) := ⟨_, rfl⟩
              have hbV : Below wY.heap.size wY wV := by rw [hwV]; exact (Below.refl _ _).alloc (Nat.le_refl _) _
              have hXV : Blk' wV wY.heap.size 47 #[.int .i64 y.rule, .int .i64 y.term, .slice Aq2 yl dq] := by rw [hwV]; exact Blk'.new _ _ _
              have hzV : wV.heap.size = wY.heap.size + 1 := by rw [hwV]; simp
              try rw [← hwV]
              have hne := HLq.out.ne
              have hq1 := HLq.out.ob.lt
              have hq2 := HLq.out.xb.lt
              have hq3 := HRq.out.lt
              have hq4 := HKX.out.size
              have hq5 := kY.size
              have hq6 := HBq.out.size
              have hz7 := HZ7.out
              have hkW : Kept (fun b => b = O7 ∨ b = XB) wq wV := ((HKX.out.mono (fun b _ h => .inl h)).trans (kY.mono (fun b _ h => .inr h))).below hbV
              have hOEV : Els wV (fun b => w.heap.size ≤ b ∧ b < wV.heap.size ∧ b ≠ O7 ∧ b ≠ wY.heap.size ∧ b ≠ R4) ([o] ++ bkL g n ks2) Aw := ((HOE.out.kept kY (fun b hb h => hb.2.2.2.1 h)).below hbV).keep (fun _ _ _ => rfl) (fun b hb => by
                have h3 := hb.2.1
                exact ⟨hb.1, by omega, hb.2.2.1, by omega, hb.2.2.2.2⟩)
              have hLV : LbL O7 wY.heap.size R4 S g n tv w.heap.size ⟨(i : Int), 0, ks1 ++ [x]⟩ (fun b => b = O7 ∨ b = X8) w5 wV ⟨(j : Int), 0, [o] ++ bkL g n ks2⟩ y Aq2 Aw dq cw := ⟨by
                  have h := (HOX.out.kept kY (show ¬ O7 = XB from hne.1)).below hbV (HOX.out.kept kY (show ¬ O7 = XB from hne.1)).lt
                  rw [HNw.out] at h
                  exact h, by rw [← HYl.out]; exact hXV, ⟨by omega, by omega, by omega, .inr (by have := HLq.out.kept.size; omega)⟩, HY.out.1, HY.out.2.1, HY.out.2.2.1, HY.out.2.2.2.1, (HY.out.2.2.2.2.2.kept hkW (fun b hb h => by have h1 := HS.out b hb; rcases h with h | h <;> omega)), HLq.out.x1, (show I64 0 from ⟨by decide, by decide⟩), (by show ([o] ++ bkL g n ks2).length ≤ cw; rw [← HNw.out]; exact HLw.out.1), HLw.out.2, hOEV, HVy.out, by
                  have h := HLq.out.bk
                  rw [h, bkX_eq, if_pos (by rw [Int.toNat_natCast]; exact hjl), bkW_snoc], (HLq.out.kept.later hkW (fun b hb => by rcases hb with rfl | rfl; exact .inl (.inl rfl); exact hne.2.2.2))⟩
              rw [hYX] at hLV
              have HLV := Lib.hid hLV
              have HMs : Hid (nodesT y < gk ∧ nodesT y ≤ N) := Lib.hid (by have h := HNq.out; simp only [nodesT, nodesL_append, nodesL] at h; omega)
              clear hLV hOEV hYX hXY kY hbV hXV hzV hne hq1 hq2 hq3 hq4 hq5 hq6 hz7 hkW
              go_roundg (nodesT y)
              case rel => exact ⟨_, _, _, _, _, _, _, rfl, HLV.out, Nat.le_refl _, HMs.out.2⟩
              case measure => exact HMs.out.1
            case twoda3 =>
              go_simp
              go_at_call 56
              refine (kidsBk_any ks2 HKi.out wq.drew (some ⟨by_, oy, none⟩) dy S P2 HCq.out.1 HCq.out.2 (HPq.out.below (Below.refl wq.heap.size wq).drew) (by omega) (by omega) (HEy.out.below (Below.refl wq.heap.size wq).drew) (fun b hb => by have h1 := HS.out b hb; have h2 := HBq.out.size; have h3 := ((Below.refl wq.heap.size wq).drew).size; exact Nat.lt_of_lt_of_le h1 (Nat.le_trans h2 h3))).mono ?_
              rintro e' w8a ⟨v, rfl, hOw8a, hbw8a⟩
              replace hbw8a : Below wq.heap.size wq w8a := bundrew hbw8a
              obtain ⟨Ay, cy, ev, hly, hcy, _⟩ := hOw8a.form
              obtain ⟨ny, hny⟩ : ∃ ny, ny = (bkL g n ks2).length := ⟨_, rfl⟩
              have HNy := Lib.hid hny
              rw [← hny] at ev hly
              subst ev
              clear hcy hny
              have x0a : w8a.cell? ⟨XB, 0, none⟩ = some (.int .i64 (j : Int)) := (hbw8a.cell (p := ⟨XB, 0, none⟩) zX).trans x0
              have x2a : w8a.cell? ⟨XB, 2, none⟩ = some (.slice (some ⟨by_, oy, none⟩) (ks2.length + 1) dy) := (hbw8a.cell (p := ⟨XB, 2, none⟩) zX).trans x2
              have o0a : w8a.cell? ⟨O7, 0, none⟩ = some (.int .i64 o.rule) := (hbw8a.cell (p := ⟨O7, 0, none⟩) zO).trans o0
              have o1a : w8a.cell? ⟨O7, 1, none⟩ = some (.int .i64 o.term) := (hbw8a.cell (p := ⟨O7, 1, none⟩) zO).trans o1
              have o2a : w8a.cell? ⟨O7, 2, none⟩ = some (.slice Ao ol dO) := (hbw8a.cell (p := ⟨O7, 2, none⟩) zO).trans o2
              have zXa : XB < w8a.heap.size := Nat.lt_of_lt_of_le zX hbw8a.size
              have zOa : O7 < w8a.heap.size := Nat.lt_of_lt_of_le zO hbw8a.size
              refine hK.out _ _ ?hdaq9 (fun hHeld => ?rdaq9)
              case hdaq9 => ((try dsimp only); go_keep)
              clear hK Kq
              try simp only [Act.put, List.setIfInBounds_toArray, List.set_cons_zero, List.set_cons_succ]
              refine st_one (i := 3) rfl (by kernel_rfl) (by rfl) (fun Kq hK => ?_)
              go_simp
              obtain ⟨w8b, hw8b⟩ : ∃ w : World, w = (w8a.alloc (.cells #[.int .i64 o.rule, .int .i64 o.term, .slice Ao ol dO] 47)) := ⟨_, rfl⟩
              have hbw8b : Below w8a.heap.size w8a w8b := by rw [hw8b]; exact ((Below.refl _ _).alloc (Nat.le_refl _) _)
              have hzw8b : w8b.heap.size = w8a.heap.size + 1 := by rw [hw8b]; simp
              have hLw8b : Own w8b (fun b => w.heap.size ≤ b ∧ b ≠ O7 ∧ b ≠ XB ∧ b ≠ R4) w8a.heap.size 47 (.slice (some ⟨w8a.heap.size, 0, none⟩) 1 1) [o] := by
                have hbe : Below wq.heap.size wq (w8a.alloc (.cells #[.int .i64 o.rule, .int .i64 o.term, .slice Ao ol dO] 47)) := hbw8a.alloc hbw8a.size _
                have h := own_litT (w := w8a) (S := fun b => w.heap.size ≤ b ∧ b ≠ O7 ∧ b ≠ XB ∧ b ≠ R4) (e := 47) (x := o) (cs := [.int .i64 o.rule, .int .i64 o.term, .slice Ao ol dO]) (rd_tree.2 ⟨_, rfl, HLq.out.o1, HLq.out.o2, Vl.of_slice HOl.out HLq.out.o3 HLq.out.o4 ((HLq.out.oe.below hbe).keep (fun _ _ _ => rfl) (fun b hb => ⟨⟨hb.1, hb.2.2⟩, Nat.lt_of_lt_of_le hb.2.1 (hbw8a.size)⟩))⟩)
                rw [hw8b]
                exact h
              rw [← hw8b]
              clear hw8b
              have x0b : w8b.cell? ⟨XB, 0, none⟩ = some (.int .i64 (j : Int)) := (hbw8b.cell (p := ⟨XB, 0, none⟩) zXa).trans x0a
              have x2b : w8b.cell? ⟨XB, 2, none⟩ = some (.slice (some ⟨by_, oy, none⟩) (ks2.length + 1) dy) := (hbw8b.cell (p := ⟨XB, 2, none⟩) zXa).trans x2a
              have o0b : w8b.cell? ⟨O7, 0, none⟩ = some (.int .i64 o.rule) := (hbw8b.cell (p := ⟨O7, 0, none⟩) zOa).trans o0a
              have o1b : w8b.cell? ⟨O7, 1, none⟩ = some (.int .i64 o.term) := (hbw8b.cell (p := ⟨O7, 1, none⟩) zOa).trans o1a
              have o2b : w8b.cell? ⟨O7, 2, none⟩ = some (.slice Ao ol dO) := (hbw8b.cell (p := ⟨O7, 2, none⟩) zOa).trans o2a
              have zXb : XB < w8b.heap.size := Nat.lt_of_lt_of_le zXa hbw8b.size
              have zOb : O7 < w8b.heap.size := Nat.lt_of_lt_of_le zOa hbw8b.size
              refine hK.out _ _ ?hdaq3 (fun hHeld => ?rdaq3)
              case hdaq3 => ((try dsimp only); go_keep)
              clear hK Kq
              try simp only [Act.put, List.setIfInBounds_toArray, List.set_cons_zero, List.set_cons_succ]
              refine st_one (i := 10) rfl (by kernel_rfl) (by rfl) (fun Kq hK => ?_)
              have hb8 : Below wq.heap.size wq w8b := bthen hbw8a hbw8b hbw8a.size
              have hO8 : Own w8b (fun b => w.heap.size ≤ b ∧ b ≠ O7 ∧ b ≠ XB ∧ b ≠ R4) w8a.heap.size 47 (.slice (some ⟨w8a.heap.size, 0, none⟩) 1 1) [o] := hLw8b
              have hys8 : Els w8b (OwnT (fun b => w.heap.size ≤ b ∧ b ≠ O7 ∧ b ≠ XB ∧ b ≠ R4) w8a.heap.size (.slice (some ⟨w8a.heap.size, 0, none⟩) 1 1) w8b) (bkL g n ks2) Ay := by
                refine ((hOw8a.vl.els).2.2.2.below hbw8b).keep (fun _ _ _ => rfl) (fun b hb => ?_)
                have h1 : wq.heap.size ≤ b := hb.1.resolve_left id
                have h2 := hzw8b
                have h3 := HBq.out.size
                have h4 := HLq.out.ob.lt
                have h5 := HLq.out.xb.lt
                have h6 := HRq.out.lt
                exact ⟨.inl ⟨by omega, by omega, by omega, by omega⟩, (fun h => by injection h with h; dsimp only at h; omega), by omega⟩
              refine wp_ownMany _ _ _ elemTree rfl rfl hO8 (bkL g n ks2) rfl HNy.out hys8 (by rw [bkL_map, List.length_map]; simp; omega) (by rw [bkL_map, List.length_map]; simp; omega) (by have := hb8.size; have := hbw8a.size; have := hbw8b.size; omega) ?_
              intro v' w9 hO9 hg9 _
              have hb9 : Below wq.heap.size wq w9 := bgrown hb8 hg9 hO8 (by have := hbw8a.size; first | exact Nat.le_refl _ | omega) hb8.size
              obtain ⟨Aw, cw, ev, hlw, hcw, _⟩ := hO9.form
              obtain ⟨nw, hnw⟩ : ∃ nw, nw = ([o] ++ bkL g n ks2).length := ⟨_, rfl⟩
              have HNw := Lib.hid hnw
              rw [← hnw] at ev hlw
              subst ev
              have HO9 : Hid (Own w9 (fun b => w.heap.size ≤ b ∧ b ≠ O7 ∧ b ≠ XB ∧ b ≠ R4) wq.heap.size 47 (.slice Aw nw cw) ([o] ++ bkL g n ks2)) := Lib.hid (hO9.base (by have := hbw8a.size; first | exact Nat.le_refl _ | omega))
              have HB9 := Lib.hid hb9
              have HLw := Lib.hid (And.intro hlw hcw)
              have x09 : w9.cell? ⟨XB, 0, none⟩ = some (.int .i64 (j : Int)) := (hb9.cell (p := ⟨XB, 0, none⟩) zX).trans x0
              have x29 : w9.cell? ⟨XB, 2, none⟩ = some (.slice (some ⟨by_, oy, none⟩) (ks2.length + 1) dy) := (hb9.cell (p := ⟨XB, 2, none⟩) zX).trans x2
              have o09 : w9.cell? ⟨O7, 0, none⟩ = some (.int .i64 o.rule) := (hb9.cell (p := ⟨O7, 0, none⟩) zO).trans o0
              have o19 : w9.cell? ⟨O7, 1, none⟩ = some (.int .i64 o.term) := (hb9.cell (p := ⟨O7, 1, none⟩) zO).trans o1
              have o29 : w9.cell? ⟨O7, 2, none⟩ = some (.slice Ao ol dO) := (hb9.cell (p := ⟨O7, 2, none⟩) zO).trans o2
              have zX9 : XB < w9.heap.size := Nat.lt_of_lt_of_le zX hb9.size
              have zO9 : O7 < w9.heap.size := Nat.lt_of_lt_of_le zO hb9.size
              have HOb9 := Lib.hid (HLq.out.ob.below hb9 HLq.out.ob.lt)
              have fo0 := HOb9.out.frozen 0
              have fo1 := HOb9.out.frozen 1
              have fo2 := HOb9.out.frozen 2
              clear hO9 hg9 hnw hlw hcw hb8 hO8 hys8 hly hb9 hbw8a hbw8b hLw8b hOw8a hzw8b
              refine hK.out _ _ ?hdaq10 (fun hHeld => ?rdaq10)
              case hdaq10 => ((try dsimp only); go_keep)
              clear hK Kq
              try simp only [Act.put, List.setIfInBounds_toArray, List.set_cons_zero, List.set_cons_succ]
              refine st_pure (i := 11) (v := ?vdaq11) rfl (by kernel_rfl) (by kernel_rfl) (by kernel_rfl) (by kernel_rfl) (fun _ _ _ h => h) (by rfl) ?ydaq11 (.inl (by assumption)) ?rdaq11
              case ydaq11 => (intro w; go_simp; try with_reducible rfl)
              try simp only [Act.put, List.setIfInBounds_toArray, List.set_cons_zero, List.set_cons_succ]
              refine st_late (i := 12) rfl (by kernel_rfl) (by rfl) (by kernel_rfl) (fun Kq hK => ?_)
              go_simp
              refine hK.out _ _ ?_
              clear hK Kq
              try simp only [Act.put, List.setIfInBounds_toArray, List.set_cons_zero, List.set_cons_succ]
              refine wpAnyD_done (by kernel_rfl) ?_ _
              refine NoPanic.normal ?_
              go_upto_region 12 with (fail)
              generalize hwX : World.setCell _ _ _ = wX
              obtain ⟨hOX, kX⟩ := set3 HOb9.out (.int .i64 (j : Int)) (.int .i64 0) (.slice Aw nw cw)
              rw [hwX] at hOX kX
              have hne := HLq.out.ne
              have HKX : Hid (Kept (fun b => b = O7) wq wX) := Lib.hid ((Kept.of_below (fun b => b = O7) HB9.out).trans kX)
              have hXX := HLq.out.xb.kept HKX.out (fun h => hne.1 h.symm)
              have HOX := Lib.hid hOX
              have HOE : Hid (Els wX (fun b => w.heap.size ≤ b ∧ b < wX.heap.size ∧ b ≠ O7 ∧ b ≠ XB ∧ b ≠ R4) ([o] ++ bkL g n ks2) Aw) := Lib.hid (((HO9.out.vl.els).2.2.2.kept kX (fun b hb h => by
                rcases hb.1 with h1 | h1
                · exact h1.2.1 h
                · have h2 := HLq.out.ob.lt
                  omega)).keep (fun _ _ _ => rfl) (fun b hb => by
                have h3 := Nat.lt_of_lt_of_le hb.2 kX.size
                have h4 := HLq.out.ob.lt
                have h5 := HLq.out.xb.lt
                have h6 := HRq.out.lt
                have h7 := HBq.out.size
                rcases hb.1 with h1 | h1
                · exact ⟨h1.1, h3, h1.2⟩
                · exact ⟨by omega, h3, by omega, by omega, by omega⟩))
              have hyO : ¬ by_ = O7 := fun h => by have h1 := HS.out by_ HY.out.2.2.2.2.1; have h2 := HZ7.out; omega
              have hyX : ¬ by_ = XB := fun h => by have h1 := HS.out by_ HY.out.2.2.2.2.1; have h2 := hne.2.2.1; omega
              have y0x : wX.cell? ⟨by_, oy + ks2.length * 3, none⟩ = some (.int .i64 y.rule) := (HKX.out.cell (p := ⟨by_, oy + ks2.length * 3, none⟩) hbby hyO).trans y0
              have y1x : wX.cell? ⟨by_, oy + ks2.length * 3 + 1, none⟩ = some (.int .i64 y.term) := (HKX.out.cell (p := ⟨by_, oy + ks2.length * 3 + 1, none⟩) hbby hyO).trans y1
              have y2x : wX.cell? ⟨by_, oy + ks2.length * 3 + 1 + 1, none⟩ = some (.slice Aq2 yl dq) := (HKX.out.cell (p := ⟨by_, oy + ks2.length * 3 + 1 + 1, none⟩) hbby hyO).trans y2
              have zby : by_ < wX.heap.size := Nat.lt_of_lt_of_le hbby HKX.out.size
              have X0 : wX.cell? ⟨XB, 0, none⟩ = some (.int .i64 (j : Int)) := hXX.cell 0
              have X1 : wX.cell? ⟨XB, 1, none⟩ = some (.int .i64 0) := hXX.cell 1
              have X2 : wX.cell? ⟨XB, 2, none⟩ = some (.slice (some ⟨by_, oy, none⟩) (ks2.length + 1) dy) := by have h : wX.cell? ⟨XB, 2, none⟩ = some (.slice (some ⟨by_, oy, none⟩) (ks2 ++ [y]).length dy) := hXX.cell 2; simpa using h
              have fX0 := hXX.frozen 0
              have fX1 := hXX.frozen 1
              have fX2 := hXX.frozen 2
              have zXX := hXX.lt
              have HXX := Lib.hid hXX
              have hm0 : (0 : Int) ≤ (ks2.length : Int) := by omega
              have hm1 : (ks2.length : Int) < (ks2.length : Int) + 1 := by omega
              clear hwX hOX kX hXX x0 x2 o0 o1 o2 zX zO x09 x29 o09 o19 o29 zX9 zO9 fo0 fo1 fo2 y0 y1 y2 hne hyO
              go_wp2_with fail
              generalize hwY : World.setCell _ _ _ = wY
              obtain ⟨hXY, kY⟩ := set3 HXX.out (.int .i64 y.rule) (.int .i64 y.term) (.slice Aq2 yl dq)
              rw [hwY] at hXY kY
              have hYX : wY.heap.size = wX.heap.size := by rw [← hwY]; simp [World.setCell]
              obtain ⟨wV, hwV⟩ : ∃ wV : World, wV = wY.alloc (.cells #[.int .i64 y.rule, .int .i64 y.term, .slice Aq2 yl dq] 47) := ⟨_, rfl⟩
              have hbV : Below wY.heap.size wY wV := by rw [hwV]; exact (Below.refl _ _).alloc (Nat.le_refl _) _
              have hXV : Blk' wV wY.heap.size 47 #[.int .i64 y.rule, .int .i64 y.term, .slice Aq2 yl dq] := by rw [hwV]; exact Blk'.new _ _ _
              have hzV : wV.heap.size = wY.heap.size + 1 := by rw [hwV]; simp
              try rw [← hwV]
              have hne := HLq.out.ne
              have hq1 := HLq.out.ob.lt
              have hq2 := HLq.out.xb.lt
              have hq3 := HRq.out.lt
              have hq4 := HKX.out.size
              have hq5 := kY.size
              have hq6 := HBq.out.size
              have hz7 := HZ7.out
              have hkW : Kept (fun b => b = O7 ∨ b = XB) wq wV := ((HKX.out.mono (fun b _ h => .inl h)).trans (kY.mono (fun b _ h => .inr h))).below hbV
              have hOEV : Els wV (fun b => w.heap.size ≤ b ∧ b < wV.heap.size ∧ b ≠ O7 ∧ b ≠ wY.heap.size ∧ b ≠ R4) ([o] ++ bkL g n ks2) Aw := ((HOE.out.kept kY (fun b hb h => hb.2.2.2.1 h)).below hbV).keep (fun _ _ _ => rfl) (fun b hb => by
                have h3 := hb.2.1
                exact ⟨hb.1, by omega, hb.2.2.1, by omega, hb.2.2.2.2⟩)
              have hLV : LbL O7 wY.heap.size R4 S g n tv w.heap.size ⟨(i : Int), 0, ks1 ++ [x]⟩ (fun b => b = O7 ∨ b = X8) w5 wV ⟨(j : Int), 0, [o] ++ bkL g n ks2⟩ y Aq2 Aw dq cw := ⟨by
                  have h := (HOX.out.kept kY (show ¬ O7 = XB from hne.1)).below hbV (HOX.out.kept kY (show ¬ O7 = XB from hne.1)).lt
                  rw [HNw.out] at h
                  exact h, by rw [← HYl.out]; exact hXV, ⟨by omega, by omega, by omega, .inr (by have := HLq.out.kept.size; omega)⟩, HY.out.1, HY.out.2.1, HY.out.2.2.1, HY.out.2.2.2.1, (HY.out.2.2.2.2.2.kept hkW (fun b hb h => by have h1 := HS.out b hb; rcases h with h | h <;> omega)), HLq.out.x1, (show I64 0 from ⟨by decide, by decide⟩), (by show ([o] ++ bkL g n ks2).length ≤ cw; rw [← HNw.out]; exact HLw.out.1), HLw.out.2, hOEV, HVy.out, by
                  have h := HLq.out.bk
                  rw [h, bkX_eq, if_pos (by rw [Int.toNat_natCast]; exact hjl), bkW_snoc], (HLq.out.kept.later hkW (fun b hb => by rcases hb with rfl | rfl; exact .inl (.inl rfl); exact hne.2.2.2))⟩
              rw [hYX] at hLV
              have HLV := Lib.hid hLV
              have HMs : Hid (nodesT y < gk ∧ nodesT y ≤ N) := Lib.hid (by have h := HNq.out; simp only [nodesT, nodesL_append, nodesL] at h; omega)
              clear hLV hOEV hYX hXY kY hbV hXV hzV hne hq1 hq2 hq3 hq4 hq5 hq6 hz7 hkW
              go_roundg (nodesT y)
              case rel => exact ⟨_, _, _, _, _, _, _, rfl, HLV.out, Nat.le_refl _, HMs.out.2⟩
              case measure => exact HMs.out.1
      case twoc7 =>
        go_simp
        obtain ⟨O7, hO7⟩ : ∃ b, b = w2.heap.size := ⟨_, rfl⟩
        obtain ⟨w3a, hw3a⟩ : ∃ w : World, w = (w2.alloc (.cells #[.int .i64 0, .int .i64 0, .slice none 0 0] 47)).drew := ⟨_, rfl⟩
        have hbw3a : Below w2.heap.size w2 w3a := by rw [hw3a]; exact ((Below.refl _ _).alloc (Nat.le_refl _) _).drew
        have hOw3a : Blk' w3a O7 47 #[.int .i64 0, .int .i64 0, .slice none 0 0] := by rw [hw3a, hO7]; exact (Blk'.new _ _ _).drew
        have hz3a : w3a.heap.size = w2.heap.size + 1 := by rw [hw3a]; simp
        rw [← hO7, ← hw3a]
        have HO7e := Lib.hid (And.intro hO7 hz3a)
        clear hw3a hO7 hz3a
        have t0a : w3a.cell? ⟨T3, 0, none⟩ = some (.int .i64 (i : Int)) := (hbw3a.cell (p := ⟨T3, 0, none⟩) zT).trans t0
        have t2a : w3a.cell? ⟨T3, 2, none⟩ = some (.slice (some ⟨bx, ox, none⟩) (ks1.length + 1) d) := (hbw3a.cell (p := ⟨T3, 2, none⟩) zT).trans t2
        have zTa : T3 < w3a.heap.size := Nat.lt_of_lt_of_le zT hbw3a.size
        refine hK.out _ _ ?hcb9 (fun hHeld => ?rcb9)
        case hcb9 => ((try dsimp only); go_keep)
        clear hK Kq
        try simp only [Act.put, List.setIfInBounds_toArray, List.set_cons_zero, List.set_cons_succ]
        refine st_one (i := 7) rfl (by kernel_rfl) (by rfl) (fun Kq hK => ?_)
        go_simp
        go_at_call 56
        refine (kidsBk_any ks1 HKids.out w3a (some ⟨bx, ox, none⟩) d S P2 ((hbw3a.cell (p := ⟨P2, 0, none⟩) HCC.out.2).trans HCC.out.1) (Nat.lt_of_lt_of_le HCC.out.2 hbw3a.size) (HP2.out.below hbw3a) (by omega) (by omega) (HEt.out.below hbw3a) (fun b hb => by have h1 := HS.out b hb; have h2 := HB2.out.size; have h3 := (hbw3a).size; exact Nat.lt_of_lt_of_le h1 (Nat.le_trans h2 h3))).mono ?_
        rintro e' w3 ⟨v, rfl, hOw3, hbw3⟩
        obtain ⟨Av, cv, ev, hlv, hcv, _⟩ := hOw3.form
        obtain ⟨nv, hnv⟩ : ∃ nv, nv = (bkL g n ks1).length := ⟨_, rfl⟩
        have HNv := Lib.hid hnv
        rw [← hnv] at ev hlv
        subst ev
        have HLv := Lib.hid (And.intro hlv hcv)
        clear hnv hlv hcv
        have t0b : w3.cell? ⟨T3, 0, none⟩ = some (.int .i64 (i : Int)) := (hbw3.cell (p := ⟨T3, 0, none⟩) zTa).trans t0a
        have t2b : w3.cell? ⟨T3, 2, none⟩ = some (.slice (some ⟨bx, ox, none⟩) (ks1.length + 1) d) := (hbw3.cell (p := ⟨T3, 2, none⟩) zTa).trans t2a
        have zTb : T3 < w3.heap.size := Nat.lt_of_lt_of_le zTa hbw3.size
        have HOw3 := Lib.hid (hOw3a.below hbw3 hOw3a.lt)
        have q0 := HOw3.out.cell 0
        have q1 := HOw3.out.cell 1
        have q2 := HOw3.out.cell 2
        have f0 := HOw3.out.frozen 0
        have f1 := HOw3.out.frozen 1
        have f2 := HOw3.out.frozen 2
        have zR := HOw3.out.lt
        simp at q0 q1 q2
        clear hOw3a
        refine hK.out _ _ ?hcb7 (fun hHeld => ?rcb7)
        case hcb7 => ((try dsimp only); go_keep)
        clear hK Kq
        try simp only [Act.put, List.setIfInBounds_toArray, List.set_cons_zero, List.set_cons_succ]
        refine st_pure (i := 8) (v := ?vcb8) rfl (by kernel_rfl) (by kernel_rfl) (by kernel_rfl) (by kernel_rfl) (fun _ _ _ h => h) (by rfl) ?ycb8 (.inl (by assumption)) ?rcb8
        case ycb8 => (intro w; go_simp; try with_reducible rfl)
        try simp only [Act.put, List.setIfInBounds_toArray, List.set_cons_zero, List.set_cons_succ]
        refine st_late (i := 10) rfl (by kernel_rfl) (by rfl) (by kernel_rfl) (fun Kq hK => ?_)
        go_simp
        refine hK.out _ _ ?_
        clear hK Kq
        try simp only [Act.put, List.setIfInBounds_toArray, List.set_cons_zero, List.set_cons_succ]
        refine wpAnyD_done (by kernel_rfl) ?_ _
        refine NoPanic.normal ?_
        have hO7 := HO7e.out.1
        have hz3a := HO7e.out.2
        generalize hw4 : World.setCell _ _ _ = w4
        obtain ⟨hO4, k4⟩ := set3 HOw3.out (.int .i64 (i : Int)) (.int .i64 0) (.slice Av nv cv)
        rw [hw4] at hO4 k4
        have hb24 : Below w2.heap.size w2 w4 := (bthen hbw3a hbw3 hbw3a.size).trans (k4.to_below (B := w2.heap.size) (fun b hb => by omega) (by have := hbw3a.size; have := hbw3.size; omega))
        have HB24 := Lib.hid hb24
        have HO7 : Hid (w2.heap.size ≤ O7 ∧ Blk' w4 O7 47 #[.int .i64 (i : Int), .int .i64 0, .slice Av nv cv] ∧ Els w4 (fun b => w2.heap.size ≤ b ∧ b < w4.heap.size ∧ b ≠ O7) (bkL g n ks1) Av) := Lib.hid ⟨by omega, hO4, ((hOw3.vl.els).2.2.2.kept k4 (fun b hb h => by have h1 : w3a.heap.size ≤ b := hb.1.resolve_left id; omega)).keep (fun _ _ _ => rfl) (fun b hb => by have h1 : w3a.heap.size ≤ b := hb.1.resolve_left id; have h2 := hb.2; have h3 := k4.size; exact ⟨by omega, by omega, by omega⟩)⟩
        have HB4 := Lib.hid (bthen HB2.out HB24.out HB2.out.size)
        clear hw4 hO4 k4 hb24 hbw3 hbw3a hOw3 hO7 hz3a t0 t2 zT t0a t2a zTa t0b t2b zTb x0 x1 x2 hbbx c2c zC q0 q1 q2 f0 f1 f2 zR
        have t2 : w4.cell? ⟨T3, 2, none⟩ = some (.slice (some ⟨bx, ox, none⟩) (ks1.length + 1) d) := (HB24.out.cell (p := ⟨T3, 2, none⟩) HT2.out.lt).trans T2c.out
        have zT : T3 < w4.heap.size := Nat.lt_of_lt_of_le HT2.out.lt HB24.out.size
        obtain ⟨xl, hxle⟩ : ∃ xl, xl = x.kids.length := ⟨_, rfl⟩
        have HXl := Lib.hid hxle
        have x0 : w4.cell? ⟨bx, ox + ks1.length * 3, none⟩ = some (.int .i64 x.rule) := (HB24.out.cell (p := ⟨bx, ox + ks1.length * 3, none⟩) HXc.out.2.2.2).trans HXc.out.1
        have x1 : w4.cell? ⟨bx, ox + ks1.length * 3 + 1, none⟩ = some (.int .i64 x.term) := (HB24.out.cell (p := ⟨bx, ox + ks1.length * 3 + 1, none⟩) HXc.out.2.2.2).trans HXc.out.2.1
        have x2 : w4.cell? ⟨bx, ox + ks1.length * 3 + 1 + 1, none⟩ = some (.slice Ax xl dx) := by rw [hxle]; exact (HB24.out.cell (p := ⟨bx, ox + ks1.length * 3 + 1 + 1, none⟩) HXc.out.2.2.2).trans HXc.out.2.2.1
        have zbx : bx < w4.heap.size := Nat.lt_of_lt_of_le HXc.out.2.2.2 HB24.out.size
        have hm0 : (0 : Int) ≤ (ks1.length : Int) := by omega
        have hm1 : (ks1.length : Int) < (ks1.length : Int) + 1 := by omega
        obtain ⟨w5, hw5⟩ : ∃ w5 : World, w5 = w4.alloc (.cells #[.int .i64 x.rule, .int .i64 x.term, .slice Ax xl dx] 47) := ⟨_, rfl⟩
        have HW5 := Lib.hid hw5
        obtain ⟨X8, hX8⟩ : ∃ b, b = w4.heap.size := ⟨_, rfl⟩
        have hb5 : Below w4.heap.size w4 w5 := by rw [hw5]; exact (Below.refl _ _).alloc (Nat.le_refl _) _
        have HB5 := Lib.hid (bthen HB4.out hb5 HB4.out.size)
        have HB25 : Hid (Below w2.heap.size w2 w5) := Lib.hid (bthen HB24.out hb5 HB24.out.size)
        have HZ7 : Hid (w.heap.size ≤ O7 ∧ O7 < X8 ∧ R4 < X8 ∧ R4 ≠ O7 ∧ X8 < w5.heap.size) := Lib.hid (by
          have h1 := HO7.out.1
          have h2 := HO7.out.2.1.lt
          have h3 := HR2.out.lt
          have h4 := HB24.out.size
          have h5 := HB2.out.size
          rw [hX8]
          exact ⟨by omega, h2, by omega, by omega, by rw [hw5]; simp⟩)
        have HL0 : Hid (LbL O7 X8 R4 S g n tv w.heap.size ⟨(i : Int), 0, ks1 ++ [x]⟩ (fun b => b = O7 ∨ b = X8) w5 w5 ⟨(i : Int), 0, bkL g n ks1⟩ x Ax Av dx cv) := Lib.hid ⟨by rw [show (Tree.mk (i : Int) 0 (bkL g n ks1)).kids.length = nv from HNv.out.symm]; exact HO7.out.2.1.below hb5 HO7.out.2.1.lt, by rw [← hxle, hw5, hX8]; exact Blk'.new _ _ _, ⟨by have := HZ7.out; omega, by have := HZ7.out; omega, by have := HZ7.out; omega, .inl (.inr rfl)⟩, HX.out.1, HX.out.2.1, HX.out.2.2.1, HX.out.2.2.2.1, ((HX.out.2.2.2.2.2.below HB24.out).below hb5), HI1.out, (show I64 0 from ⟨by decide, by decide⟩), by rw [show (Tree.mk (i : Int) 0 (bkL g n ks1)).kids.length = nv from HNv.out.symm]; exact HLv.out.1, HLv.out.2, (HO7.out.2.2.below hb5).keep (fun _ _ _ => rfl) (fun b hb => by
            have h1 := hb.1
            have h2 := hb.2.1
            have h3 := HB2.out.size
            have h4 := HR2.out.lt
            have h5 := hb5.size
            exact ⟨by omega, by omega, hb.2.2, by omega, by omega⟩), HVx.out, HB0.out, Kept.refl _ _⟩
        have HNx1 : Hid (nodesT x ≤ N + 1 ∧ nodesT x ≤ N) := Lib.hid ⟨Nat.le_succ_of_le HNx.out, HNx.out⟩
        clear hb5 hxle hw5
        go_upto_region 9 with (fail)
        rw [← HW5.out, ← hX8]
        clear t2 zT x0 x1 x2 zbx hm0 hm1 hX8
        go_loopg [8] (N + 1) (fun gk p wr => ∃ (XB : Nat) (o x' : Tree) (Bx Ao : Option Addr) (dx dO : Nat), p = .pointer (some ⟨XB, 0, none⟩) ∧ LbL O7 XB R4 S g n tv w.heap.size ⟨(i : Int), 0, ks1 ++ [x]⟩ (fun b => b = O7 ∨ b = X8) w5 wr o x' Bx Ao dx dO ∧ nodesT x' ≤ gk ∧ nodesT x' ≤ N)
        case atStart => exact ⟨X8, _, _, _, _, _, _, rfl, HL0.out, HNx1.out.1, HNx1.out.2⟩
        case round =>
          obtain ⟨wo, hwo⟩ : ∃ wo : World, wo = wr := ⟨_, rfl⟩
          subst hwo
          obtain ⟨XB, o, x', By, Ao, dy, dO, rfl, hL, hgk, hgN⟩ := hrel
          have hbo : Below w.heap.size w wo := HB5.out.trans (hL.kept.to_below (B := w.heap.size) (fun b hb => by have := HZ7.out; rcases hb with rfl | rfl <;> omega) HB5.out.size)
          have HBo := Lib.hid hbo
          have HPo := Lib.hid (HP.out.below hbo)
          have HKL := Lib.hid hL.kept
          have HCo := Lib.hid ((HC2.out.below HB25.out HC2.out.lt).kept hL.kept (fun h => by have := HZ7.out; have h2 := HC2.out.lt; have h3 := HO7.out.1; have h4 := HZ.out; have h5 := HR2.out.lt; rcases h with h | h <;> omega))
          have HRo := Lib.hid ((HR2.out.below HB25.out HR2.out.lt).kept hL.kept (fun h => by have := HZ7.out; rcases h with h | h <;> omega))
          obtain ⟨xr, xt, xk⟩ := x'
          obtain ⟨hxt, j, hxr, hcs⟩ := vtOut_tail HV.out hgn hL.vx htn
          subst hxt
          subst hxr
          have HL := Lib.hid hL
          have HNq := Lib.hid (And.intro hgk hgN)
          have hjF : j < (fromL g n).length := by
            have e : (fromL g n).length = g.rules.length + cntRec g n := by unfold fromL; rw [List.length_append, idxL_len, List.length_replicate]
            rw [e]
            rcases hcs with ⟨_, h2, _⟩ | ⟨q', h1, _⟩
            · omega
            · have := (List.getElem?_eq_some_iff.1 h1).1
              omega
          obtain ⟨fv, hfv⟩ := get_some hjF
          have hfe : fv = if j < g.rules.length then (j : Int) else -1 := by
            unfold fromL at hfv
            rw [List.getElem?_append, idxL_len] at hfv
            split at hfv
            · rename_i h
              rw [if_pos h]
              unfold idxL at hfv
              rw [List.getElem?_map, List.getElem?_range h] at hfv
              simp at hfv
              exact hfv.symm
            · rename_i h
              rw [if_neg h]
              rw [List.getElem?_replicate] at hfv
              split at hfv
              · injection hfv with hfv; exact hfv.symm
              · cases hfv
          obtain ⟨bf, of_, eA2, hSf, hbf, hfi, cf⟩ := HPo.out.frm.int hfv
          have c2c : wo.cell? ⟨P2, 0, none⟩ = some (.pointer (some ⟨P, 0, none⟩)) := HCo.out.cell 0
          have zC : P2 < wo.heap.size := HCo.out.lt
          have p9 : wo.cell? ⟨P, 9, none⟩ = some (.slice (some ⟨bf, of_, none⟩) (fromL g n).length c2) := by have h := HPo.out.ptr.cell 9; rw [eA2] at h; exact h
          have zP : P < wo.heap.size := HPo.out.ptr.lt
          have x0 : wo.cell? ⟨XB, 0, none⟩ = some (.int .i64 (j : Int)) := hL.xb.cell 0
          have zX : XB < wo.heap.size := hL.xb.lt
          have hj9 : (j : Int) < ((fromL g n).length : Int) := by omega
          have hj0 : (0 : Int) ≤ (j : Int) := by omega
          clear hL hgk hgN hfv hfi hSf hbo hjF
          rcases hcs with ⟨hge, _, hkn, hk⟩ | ⟨q', hq', hrec', hti, ks2, y, hxk, hks2, hvy⟩
          · subst hkn
            have hf1 : fv = -1 := by rw [hfe, if_neg (by omega)]
            subst hf1
            clear hfe
            go_upto_region 9 with (fail)
            go_quiet (fail)
            obtain ⟨wq, hwq⟩ : ∃ wq : World, wq = wo.drewN nq := ⟨_, rfl⟩
            have hbq : Below wo.heap.size wo wq := by rw [hwq]; exact bdrewN (Below.refl _ _)
            rw [← hwq]
            have HOq := Lib.hid (HL.out.ob.below hbq HL.out.ob.lt)
            have HRq := Lib.hid (HRo.out.below hbq HRo.out.lt)
            have HOe := Lib.hid (HL.out.oe.below hbq)
            have HBq := Lib.hid (bthen HBo.out hbq HBo.out.size)
            have HWq : Hid (wo.heap.size ≤ wq.heap.size) := Lib.hid hbq.size
            obtain ⟨ol, hol⟩ : ∃ ol, ol = o.kids.length := ⟨_, rfl⟩
            have HOl := Lib.hid hol
            have o0 : wq.cell? ⟨O7, 0, none⟩ = some (.int .i64 o.rule) := HOq.out.cell 0
            have o1 : wq.cell? ⟨O7, 1, none⟩ = some (.int .i64 o.term) := HOq.out.cell 1
            have o2 : wq.cell? ⟨O7, 2, none⟩ = some (.slice Ao ol dO) := by rw [hol]; exact HOq.out.cell 2
            have zO : O7 < wq.heap.size := HOq.out.lt
            have q0 := HRq.out.cell 0
            have q1 := HRq.out.cell 1
            have q2 := HRq.out.cell 2
            have f0 := HRq.out.frozen 0
            have f1 := HRq.out.frozen 1
            have f2 := HRq.out.frozen 2
            have zR := HRq.out.lt
            simp at q0 q1 q2
            clear hwq hbq c2c zC p9 zP x0 zX cf hbf hol
            go_wp2_with fail
            generalize hwF : World.setCell _ _ _ = wF
            obtain ⟨hRF, kF⟩ := set3 HRq.out (.int .i64 o.rule) (.int .i64 o.term) (.slice Ao ol dO)
            rw [hwF] at hRF kF
            have u0 : wF.cell? ⟨R4, 0, none⟩ = some (.int .i64 o.rule) := hRF.cell 0
            have u1 : wF.cell? ⟨R4, 1, none⟩ = some (.int .i64 o.term) := hRF.cell 1
            have u2 : wF.cell? ⟨R4, 2, none⟩ = some (.slice Ao ol dO) := hRF.cell 2
            have hz := HZ.out
            have hbk : bkT g n ⟨(i : Int), 0, ks1 ++ [x]⟩ = o := by rw [HL.out.bk, bkX_eq, if_neg (by rw [Int.toNat_natCast]; omega)]
            refine bodyPost_ret (v := .agg #[.int .i64 o.rule, .int .i64 o.term, .slice Ao ol dO]) (by simp [results, Try.results29, go_sem, u0, u1, u2]) rfl ?_
            rw [hbk]
            exact ⟨Ao, dO, by rw [HOl.out], HL.out.o1, HL.out.o2, HL.out.o3, HL.out.o4, (HOe.out.kept kF (fun b hb h => hb.2.2.2.2 h)).keep (fun _ _ _ => rfl) (fun b hb => ⟨hb.1, by have h1 := hb.2.1; have h2 := kF.size; have h3 := HRq.out; exact Nat.lt_of_lt_of_le h1 (Nat.le_trans HWq.out h2)⟩), HBq.out.trans (kF.to_below (B := w.heap.size) (fun b hb => by omega) HBq.out.size)⟩
          · subst hxk
            have hjl : j < g.rules.length := (List.getElem?_eq_some_iff.1 hq').1
            have hf1 : fv = (j : Int) := by rw [hfe, if_pos hjl]
            subst hf1
            clear hfe
            have hqv' := HV.out.rules q' (List.mem_of_getElem? hq')
            have hk4' : ks2.length ≤ 4 := by rw [vts_same ks2 _ hks2, List.length_drop]; omega
            have HKi : Hid (∀ k ∈ ks2, BkOk P gT g n (some ⟨bq, oq, none⟩) A1 A2 c c1 c2 Sg Sp k) := Lib.hid (fun k hk => by
              obtain ⟨s', h1, h2⟩ := vts_mem ks2 _ hks2 k hk
              have h3 := nodes_mem hk
              have hn := HNq.out.2
              simp only [nodesT, nodesL_append] at hn
              exact HIh.out k s' (by omega) h2 (sym_old HV.out hgn (List.mem_of_getElem? hq') (List.mem_of_mem_drop h1)))
            have HVy := Lib.hid hvy
            go_upto_region 9 with (fail)
            go_quiet (fail)
            obtain ⟨wq, hwq⟩ : ∃ wq : World, wq = wo.drewN nq := ⟨_, rfl⟩
            have hbq : Below wo.heap.size wo wq := by rw [hwq]; exact bdrewN (Below.refl _ _)
            rw [← hwq]
            have HLq := Lib.hid (HL.out.below hbq)
            have HRq := Lib.hid (HRo.out.below hbq HRo.out.lt)
            have HCq : Hid (wq.cell? ⟨P2, 0, none⟩ = some (.pointer (some ⟨P, 0, none⟩)) ∧ P2 < wq.heap.size) := Lib.hid ⟨(hbq.cell (p := ⟨P2, 0, none⟩) zC).trans c2c, Nat.lt_of_lt_of_le zC hbq.size⟩
            have HPq := Lib.hid (HPo.out.below hbq)
            have HBq := Lib.hid (bthen HBo.out hbq HBo.out.size)
            obtain ⟨by_, oy, Aq2, dq, eBy, hSy, hbby, iy1, iy2, hyl, hyc, hEyk, y0, y1, y2⟩ := HLq.out.xe.tree (k := ks2.length) (x := y) (by show (ks2 ++ [y])[ks2.length]? = some y; simp)
            have HY := Lib.hid (And.intro iy1 (And.intro iy2 (And.intro hyl (And.intro hyc (And.intro hSy hEyk)))))
            have HEy : Hid (Els wq S ks2 By) := Lib.hid (by have h : Els wq S ((ks2 ++ [y]).take ks2.length) By := HLq.out.xe.takeS ks2.length; rwa [List.take_left' rfl] at h)
            have hyd : ks2.length + 1 ≤ dy := by have h : (ks2 ++ [y]).length ≤ dy := HLq.out.x3; simpa using h
            have hyd9 := HLq.out.x4
            subst eBy
            obtain ⟨yl, hyle⟩ : ∃ yl, yl = y.kids.length := ⟨_, rfl⟩
            have HYl := Lib.hid hyle
            rw [← hyle] at y2
            obtain ⟨ol, hol⟩ : ∃ ol, ol = o.kids.length := ⟨_, rfl⟩
            have HOl := Lib.hid hol
            have x0' : wq.cell? ⟨XB, 0, none⟩ = some (.int .i64 (j : Int)) := HLq.out.xb.cell 0
            have x2 : wq.cell? ⟨XB, 2, none⟩ = some (.slice (some ⟨by_, oy, none⟩) (ks2.length + 1) dy) := by have h : wq.cell? ⟨XB, 2, none⟩ = some (.slice (some ⟨by_, oy, none⟩) (ks2 ++ [y]).length dy) := HLq.out.xb.cell 2; simpa using h
            have o0 : wq.cell? ⟨O7, 0, none⟩ = some (.int .i64 o.rule) := HLq.out.ob.cell 0
            have o1 : wq.cell? ⟨O7, 1, none⟩ = some (.int .i64 o.term) := HLq.out.ob.cell 1
            have o2 : wq.cell? ⟨O7, 2, none⟩ = some (.slice Ao ol dO) := by rw [hol]; exact HLq.out.ob.cell 2
            clear x0 zX
            have x0 := x0'
            have zX : XB < wq.heap.size := HLq.out.xb.lt
            have zO : O7 < wq.heap.size := HLq.out.ob.lt
            have hwk2 : IntKind.i64.wrap (ks2.length : Int) = (ks2.length : Int) := IntWalk.i64_in _ (by omega)
            have hd1 : (ks2.length : Int) ≤ (dy : Int) := by omega
            have hd2 : (0 : Int) ≤ (ks2.length : Int) := by omega
            clear hwq hbq c2c zC p9 zP cf hbf hol hyle iy1 iy2 hyl hyc hSy hEyk hks2 hvy hqv' hq' hrec' hti x0'
            go_upto_region 11 with (fail)
            refine wp_region_noPanic ?_
            refine stage_start (S := (fun w' => w'.cell? ⟨XB, 0, none⟩ = some (.int .i64 (j : Int)) ∧ w'.cell? ⟨XB, 2, none⟩ = some (.slice (some ⟨by_, oy, none⟩) (ks2.length + 1) dy) ∧ w'.cell? ⟨O7, 0, none⟩ = some (.int .i64 o.rule) ∧ w'.cell? ⟨O7, 1, none⟩ = some (.int .i64 o.term) ∧ w'.cell? ⟨O7, 2, none⟩ = some (.slice Ao ol dO))) 12 (by kernel_rfl) ?hdb (fun hHeld => ?bdb)
            case hdb => ((try dsimp only); go_keep)
            refine st_pure (i := 0) (v := ?vdb0) rfl (by kernel_rfl) (by kernel_rfl) (by kernel_rfl) (by kernel_rfl) (fun _ _ _ h => h) (by rfl) ?ydb0 (.inl (by assumption)) ?rdb0
            case ydb0 => (intro w; go_simp; try with_reducible rfl)
            try simp only [Act.put, List.setIfInBounds_toArray, List.set_cons_zero, List.set_cons_succ]
            refine st_run (i := 1) (v := ?vdb1) rfl (by kernel_rfl) (by kernel_rfl) (by kernel_rfl) (by kernel_rfl) (fun _ _ _ h => h) (by rfl) ?ydb1 (by assumption) ?rdb1
            case ydb1 => (intro w hSw; (try dsimp only at hSw); go_simp; try with_reducible rfl)
            try simp only [Act.put, List.setIfInBounds_toArray, List.set_cons_zero, List.set_cons_succ]
            refine st_run (i := 2) (v := ?vdb2) rfl (by kernel_rfl) (by kernel_rfl) (by kernel_rfl) (by kernel_rfl) (fun _ _ _ h => h) (by rfl) ?ydb2 (by assumption) ?rdb2
            case ydb2 => (intro w hSw; (try dsimp only at hSw); go_simp; try with_reducible rfl)
            try simp only [Act.put, List.setIfInBounds_toArray, List.set_cons_zero, List.set_cons_succ]
            refine st_pure (i := 4) (v := ?vdb4) rfl (by kernel_rfl) (by kernel_rfl) (by kernel_rfl) (by kernel_rfl) (fun _ _ _ h => h) (by rfl) ?ydb4 (.inl (by assumption)) ?rdb4
            case ydb4 => (intro w; go_simp; try with_reducible rfl)
            try simp only [Act.put, List.setIfInBounds_toArray, List.set_cons_zero, List.set_cons_succ]
            refine st_pure (i := 5) (v := ?vdb5) rfl (by kernel_rfl) (by kernel_rfl) (by kernel_rfl) (by kernel_rfl) (fun _ _ _ h => h) (by rfl) ?ydb5 (.inl (by assumption)) ?rdb5
            case ydb5 => (intro w; go_simp; try with_reducible rfl)
            try simp only [Act.put, List.setIfInBounds_toArray, List.set_cons_zero, List.set_cons_succ]
            refine st_run (i := 6) (v := ?vdb6) rfl (by kernel_rfl) (by kernel_rfl) (by kernel_rfl) (by kernel_rfl) (fun _ _ _ h => h) (by rfl) ?ydb6 (by assumption) ?rdb6
            case ydb6 => (intro w hSw; (try dsimp only at hSw); go_simp; try with_reducible rfl)
            try simp only [Act.put, List.setIfInBounds_toArray, List.set_cons_zero, List.set_cons_succ]
            refine st_pure (i := 7) (v := ?vdb7) rfl (by kernel_rfl) (by kernel_rfl) (by kernel_rfl) (by kernel_rfl) (fun _ _ _ h => h) (by rfl) ?ydb7 (.inl (by assumption)) ?rdb7
            case ydb7 => (intro w; go_simp; try with_reducible rfl)
            try simp only [Act.put, List.setIfInBounds_toArray, List.set_cons_zero, List.set_cons_succ]
            refine st_pure (i := 8) (v := ?vdb8) rfl (by kernel_rfl) (by kernel_rfl) (by kernel_rfl) (by kernel_rfl) (fun _ _ _ h => h) (by rfl) ?ydb8 (.inl (by assumption)) ?rdb8
            case ydb8 => (intro w; go_simp; try with_reducible rfl)
            try simp only [Act.put, List.setIfInBounds_toArray, List.set_cons_zero, List.set_cons_succ]
            refine st_two (i := 3) (j := 9) rfl rfl (by kernel_rfl) (by rfl) (by rfl) (fun Kq hK => ?onedb3) (fun Kq hK => ?twodb3)
            case onedb3 =>
              go_simp
              obtain ⟨w8a, hw8a⟩ : ∃ w : World, w = (wq.alloc (.cells #[.int .i64 o.rule, .int .i64 o.term, .slice Ao ol dO] 47)).drew := ⟨_, rfl⟩
              have hbw8a : Below wq.heap.size wq w8a := by rw [hw8a]; exact ((Below.refl _ _).alloc (Nat.le_refl _) _).drew
              have hzw8a : w8a.heap.size = wq.heap.size + 1 := by rw [hw8a]; simp
              have hLw8a : Own w8a (fun b => w.heap.size ≤ b ∧ b ≠ O7 ∧ b ≠ XB ∧ b ≠ R4) wq.heap.size 47 (.slice (some ⟨wq.heap.size, 0, none⟩) 1 1) [o] := by
                have hbe : Below wq.heap.size wq (wq.alloc (.cells #[.int .i64 o.rule, .int .i64 o.term, .slice Ao ol dO] 47)) := (Below.refl _ _).alloc (Nat.le_refl _) _
                have h := own_litT (w := wq) (S := fun b => w.heap.size ≤ b ∧ b ≠ O7 ∧ b ≠ XB ∧ b ≠ R4) (e := 47) (x := o) (cs := [.int .i64 o.rule, .int .i64 o.term, .slice Ao ol dO]) (rd_tree.2 ⟨_, rfl, HLq.out.o1, HLq.out.o2, Vl.of_slice HOl.out HLq.out.o3 HLq.out.o4 ((HLq.out.oe.below hbe).keep (fun _ _ _ => rfl) (fun b hb => ⟨⟨hb.1, hb.2.2⟩, Nat.lt_of_lt_of_le hb.2.1 (Nat.le_refl _)⟩))⟩)
                rw [hw8a]
                exact h.drew
              rw [← hw8a]
              clear hw8a
              have x0a : w8a.cell? ⟨XB, 0, none⟩ = some (.int .i64 (j : Int)) := (hbw8a.cell (p := ⟨XB, 0, none⟩) zX).trans x0
              have x2a : w8a.cell? ⟨XB, 2, none⟩ = some (.slice (some ⟨by_, oy, none⟩) (ks2.length + 1) dy) := (hbw8a.cell (p := ⟨XB, 2, none⟩) zX).trans x2
              have o0a : w8a.cell? ⟨O7, 0, none⟩ = some (.int .i64 o.rule) := (hbw8a.cell (p := ⟨O7, 0, none⟩) zO).trans o0
              have o1a : w8a.cell? ⟨O7, 1, none⟩ = some (.int .i64 o.term) := (hbw8a.cell (p := ⟨O7, 1, none⟩) zO).trans o1
              have o2a : w8a.cell? ⟨O7, 2, none⟩ = some (.slice Ao ol dO) := (hbw8a.cell (p := ⟨O7, 2, none⟩) zO).trans o2
              have zXa : XB < w8a.heap.size := Nat.lt_of_lt_of_le zX hbw8a.size
              have zOa : O7 < w8a.heap.size := Nat.lt_of_lt_of_le zO hbw8a.size
              refine hK.out _ _ ?hdbp3 (fun hHeld => ?rdbp3)
              case hdbp3 => ((try dsimp only); go_keep)
              clear hK Kq
              try simp only [Act.put, List.setIfInBounds_toArray, List.set_cons_zero, List.set_cons_succ]
              refine st_one (i := 9) rfl (by kernel_rfl) (by rfl) (fun Kq hK => ?_)
              go_simp
              go_at_call 56
              refine (kidsBk_any ks2 HKi.out w8a (some ⟨by_, oy, none⟩) dy S P2 ((hbw8a.cell (p := ⟨P2, 0, none⟩) HCq.out.2).trans HCq.out.1) (Nat.lt_of_lt_of_le HCq.out.2 hbw8a.size) (HPq.out.below hbw8a) (by omega) (by omega) (HEy.out.below hbw8a) (fun b hb => by have h1 := HS.out b hb; have h2 := HBq.out.size; have h3 := (hbw8a).size; exact Nat.lt_of_lt_of_le h1 (Nat.le_trans h2 h3))).mono ?_
              rintro e' w8b ⟨v, rfl, hOw8b, hbw8b⟩
              obtain ⟨Ay, cy, ev, hly, hcy, _⟩ := hOw8b.form
              obtain ⟨ny, hny⟩ : ∃ ny, ny = (bkL g n ks2).length := ⟨_, rfl⟩
              have HNy := Lib.hid hny
              rw [← hny] at ev hly
              subst ev
              clear hcy hny
              have x0b : w8b.cell? ⟨XB, 0, none⟩ = some (.int .i64 (j : Int)) := (hbw8b.cell (p := ⟨XB, 0, none⟩) zXa).trans x0a
              have x2b : w8b.cell? ⟨XB, 2, none⟩ = some (.slice (some ⟨by_, oy, none⟩) (ks2.length + 1) dy) := (hbw8b.cell (p := ⟨XB, 2, none⟩) zXa).trans x2a
              have o0b : w8b.cell? ⟨O7, 0, none⟩ = some (.int .i64 o.rule) := (hbw8b.cell (p := ⟨O7, 0, none⟩) zOa).trans o0a
              have o1b : w8b.cell? ⟨O7, 1, none⟩ = some (.int .i64 o.term) := (hbw8b.cell (p := ⟨O7, 1, none⟩) zOa).trans o1a
              have o2b : w8b.cell? ⟨O7, 2, none⟩ = some (.slice Ao ol dO) := (hbw8b.cell (p := ⟨O7, 2, none⟩) zOa).trans o2a
              have zXb : XB < w8b.heap.size := Nat.lt_of_lt_of_le zXa hbw8b.size
              have zOb : O7 < w8b.heap.size := Nat.lt_of_lt_of_le zOa hbw8b.size
              refine hK.out _ _ ?hdbp9 (fun hHeld => ?rdbp9)
              case hdbp9 => ((try dsimp only); go_keep)
              clear hK Kq
              try simp only [Act.put, List.setIfInBounds_toArray, List.set_cons_zero, List.set_cons_succ]
              refine st_one (i := 10) rfl (by kernel_rfl) (by rfl) (fun Kq hK => ?_)
              have hb8 : Below wq.heap.size wq w8b := bthen hbw8a hbw8b hbw8a.size
              have hO8 : Own w8b (fun b => w.heap.size ≤ b ∧ b ≠ O7 ∧ b ≠ XB ∧ b ≠ R4) wq.heap.size 47 (.slice (some ⟨wq.heap.size, 0, none⟩) 1 1) [o] := hLw8a.below hbw8b (Nat.le_refl _)
              have hys8 : Els w8b (OwnT (fun b => w.heap.size ≤ b ∧ b ≠ O7 ∧ b ≠ XB ∧ b ≠ R4) wq.heap.size (.slice (some ⟨wq.heap.size, 0, none⟩) 1 1) w8b) (bkL g n ks2) Ay := by
                refine (hOw8b.vl.els).2.2.2.keep (fun _ _ _ => rfl) (fun b hb => ?_)
                have h1 := hb.1.resolve_left id
                have h2 := hzw8a
                have h3 := HBq.out.size
                have h4 := HLq.out.ob.lt
                have h5 := HLq.out.xb.lt
                have h6 := HRq.out.lt
                exact ⟨.inl ⟨by omega, by omega, by omega, by omega⟩, (fun h => by injection h with h; dsimp only at h; omega), hb.2⟩
              refine wp_ownMany _ _ _ elemTree rfl rfl hO8 (bkL g n ks2) rfl HNy.out hys8 (by rw [bkL_map, List.length_map]; simp; omega) (by rw [bkL_map, List.length_map]; simp; omega) (by have := hb8.size; have := hbw8a.size; have := hbw8b.size; omega) ?_
              intro v' w9 hO9 hg9 _
              have hb9 : Below wq.heap.size wq w9 := bgrown hb8 hg9 hO8 (by have := hbw8a.size; first | exact Nat.le_refl _ | omega) hb8.size
              obtain ⟨Aw, cw, ev, hlw, hcw, _⟩ := hO9.form
              obtain ⟨nw, hnw⟩ : ∃ nw, nw = ([o] ++ bkL g n ks2).length := ⟨_, rfl⟩
              have HNw := Lib.hid hnw
              rw [← hnw] at ev hlw
              subst ev
              have HO9 : Hid (Own w9 (fun b => w.heap.size ≤ b ∧ b ≠ O7 ∧ b ≠ XB ∧ b ≠ R4) wq.heap.size 47 (.slice Aw nw cw) ([o] ++ bkL g n ks2)) := Lib.hid (hO9.base (by have := hbw8a.size; first | exact Nat.le_refl _ | omega))
              have HB9 := Lib.hid hb9
              have HLw := Lib.hid (And.intro hlw hcw)
              have x09 : w9.cell? ⟨XB, 0, none⟩ = some (.int .i64 (j : Int)) := (hb9.cell (p := ⟨XB, 0, none⟩) zX).trans x0
              have x29 : w9.cell? ⟨XB, 2, none⟩ = some (.slice (some ⟨by_, oy, none⟩) (ks2.length + 1) dy) := (hb9.cell (p := ⟨XB, 2, none⟩) zX).trans x2
              have o09 : w9.cell? ⟨O7, 0, none⟩ = some (.int .i64 o.rule) := (hb9.cell (p := ⟨O7, 0, none⟩) zO).trans o0
              have o19 : w9.cell? ⟨O7, 1, none⟩ = some (.int .i64 o.term) := (hb9.cell (p := ⟨O7, 1, none⟩) zO).trans o1
              have o29 : w9.cell? ⟨O7, 2, none⟩ = some (.slice Ao ol dO) := (hb9.cell (p := ⟨O7, 2, none⟩) zO).trans o2
              have zX9 : XB < w9.heap.size := Nat.lt_of_lt_of_le zX hb9.size
              have zO9 : O7 < w9.heap.size := Nat.lt_of_lt_of_le zO hb9.size
              have HOb9 := Lib.hid (HLq.out.ob.below hb9 HLq.out.ob.lt)
              have fo0 := HOb9.out.frozen 0
              have fo1 := HOb9.out.frozen 1
              have fo2 := HOb9.out.frozen 2
              clear hO9 hg9 hnw hlw hcw hb8 hO8 hys8 hly hb9 hbw8a hbw8b hLw8a hOw8b hzw8a
              refine hK.out _ _ ?hdbp10 (fun hHeld => ?rdbp10)
              case hdbp10 => ((try dsimp only); go_keep)
              clear hK Kq
              try simp only [Act.put, List.setIfInBounds_toArray, List.set_cons_zero, List.set_cons_succ]
              refine st_pure (i := 11) (v := ?vdbp11) rfl (by kernel_rfl) (by kernel_rfl) (by kernel_rfl) (by kernel_rfl) (fun _ _ _ h => h) (by rfl) ?ydbp11 (.inl (by assumption)) ?rdbp11
              case ydbp11 => (intro w; go_simp; try with_reducible rfl)
              try simp only [Act.put, List.setIfInBounds_toArray, List.set_cons_zero, List.set_cons_succ]
              refine st_late (i := 12) rfl (by kernel_rfl) (by rfl) (by kernel_rfl) (fun Kq hK => ?_)
              go_simp
              refine hK.out _ _ ?_
              clear hK Kq
              try simp only [Act.put, List.setIfInBounds_toArray, List.set_cons_zero, List.set_cons_succ]
              refine wpAnyD_done (by kernel_rfl) ?_ _
              refine NoPanic.normal ?_
              go_upto_region 12 with (fail)
              generalize hwX : World.setCell _ _ _ = wX
              obtain ⟨hOX, kX⟩ := set3 HOb9.out (.int .i64 (j : Int)) (.int .i64 0) (.slice Aw nw cw)
              rw [hwX] at hOX kX
              have hne := HLq.out.ne
              have HKX : Hid (Kept (fun b => b = O7) wq wX) := Lib.hid ((Kept.of_below (fun b => b = O7) HB9.out).trans kX)
              have hXX := HLq.out.xb.kept HKX.out (fun h => hne.1 h.symm)
              have HOX := Lib.hid hOX
              have HOE : Hid (Els wX (fun b => w.heap.size ≤ b ∧ b < wX.heap.size ∧ b ≠ O7 ∧ b ≠ XB ∧ b ≠ R4) ([o] ++ bkL g n ks2) Aw) := Lib.hid (((HO9.out.vl.els).2.2.2.kept kX (fun b hb h => by
                rcases hb.1 with h1 | h1
                · exact h1.2.1 h
                · have h2 := HLq.out.ob.lt
                  omega)).keep (fun _ _ _ => rfl) (fun b hb => by
                have h3 := Nat.lt_of_lt_of_le hb.2 kX.size
                have h4 := HLq.out.ob.lt
                have h5 := HLq.out.xb.lt
                have h6 := HRq.out.lt
                have h7 := HBq.out.size
                rcases hb.1 with h1 | h1
                · exact ⟨h1.1, h3, h1.2⟩
                · exact ⟨by omega, h3, by omega, by omega, by omega⟩))
              have hyO : ¬ by_ = O7 := fun h => by have h1 := HS.out by_ HY.out.2.2.2.2.1; have h2 := HZ7.out; omega
              have hyX : ¬ by_ = XB := fun h => by have h1 := HS.out by_ HY.out.2.2.2.2.1; have h2 := hne.2.2.1; omega
              have y0x : wX.cell? ⟨by_, oy + ks2.length * 3, none⟩ = some (.int .i64 y.rule) := (HKX.out.cell (p := ⟨by_, oy + ks2.length * 3, none⟩) hbby hyO).trans y0
              have y1x : wX.cell? ⟨by_, oy + ks2.length * 3 + 1, none⟩ = some (.int .i64 y.term) := (HKX.out.cell (p := ⟨by_, oy + ks2.length * 3 + 1, none⟩) hbby hyO).trans y1
              have y2x : wX.cell? ⟨by_, oy + ks2.length * 3 + 1 + 1, none⟩ = some (.slice Aq2 yl dq) := (HKX.out.cell (p := ⟨by_, oy + ks2.length * 3 + 1 + 1, none⟩) hbby hyO).trans y2
              have zby : by_ < wX.heap.size := Nat.lt_of_lt_of_le hbby HKX.out.size
              have X0 : wX.cell? ⟨XB, 0, none⟩ = some (.int .i64 (j : Int)) := hXX.cell 0
              have X1 : wX.cell? ⟨XB, 1, none⟩ = some (.int .i64 0) := hXX.cell 1
              have X2 : wX.cell? ⟨XB, 2, none⟩ = some (.slice (some ⟨by_, oy, none⟩) (ks2.length + 1) dy) := by have h : wX.cell? ⟨XB, 2, none⟩ = some (.slice (some ⟨by_, oy, none⟩) (ks2 ++ [y]).length dy) := hXX.cell 2; simpa using h
              have fX0 := hXX.frozen 0
              have fX1 := hXX.frozen 1
              have fX2 := hXX.frozen 2
              have zXX := hXX.lt
              have HXX := Lib.hid hXX
              have hm0 : (0 : Int) ≤ (ks2.length : Int) := by omega
              have hm1 : (ks2.length : Int) < (ks2.length : Int) + 1 := by omega
              clear hwX hOX kX hXX x0 x2 o0 o1 o2 zX zO x09 x29 o09 o19 o29 zX9 zO9 fo0 fo1 fo2 y0 y1 y2 hne hyO
              go_wp2_with fail
              generalize hwY : World.setCell _ _ _ = wY
              obtain ⟨hXY, kY⟩ := set3 HXX.out (.int .i64 y.rule) (.int .i64 y.term) (.slice Aq2 yl dq)
              rw [hwY] at hXY kY
              have hYX : wY.heap.size = wX.heap.size := by rw [← hwY]; simp [World.setCell]
              obtain ⟨wV, hwV⟩ : ∃ wV : World, wV = wY.alloc (.cells #[.int .i64 y.rule, .int .i64 y.term, .slice Aq2 yl dq] 47) := ⟨_, rfl⟩
              have hbV : Below wY.heap.size wY wV := by rw [hwV]; exact (Below.refl _ _).alloc (Nat.le_refl _) _
              have hXV : Blk' wV wY.heap.size 47 #[.int .i64 y.rule, .int .i64 y.term, .slice Aq2 yl dq] := by rw [hwV]; exact Blk'.new _ _ _
              have hzV : wV.heap.size = wY.heap.size + 1 := by rw [hwV]; simp
              try rw [← hwV]
              have hne := HLq.out.ne
              have hq1 := HLq.out.ob.lt
              have hq2 := HLq.out.xb.lt
              have hq3 := HRq.out.lt
              have hq4 := HKX.out.size
              have hq5 := kY.size
              have hq6 := HBq.out.size
              have hz7 := HZ7.out
              have hkW : Kept (fun b => b = O7 ∨ b = XB) wq wV := ((HKX.out.mono (fun b _ h => .inl h)).trans (kY.mono (fun b _ h => .inr h))).below hbV
              have hOEV : Els wV (fun b => w.heap.size ≤ b ∧ b < wV.heap.size ∧ b ≠ O7 ∧ b ≠ wY.heap.size ∧ b ≠ R4) ([o] ++ bkL g n ks2) Aw := ((HOE.out.kept kY (fun b hb h => hb.2.2.2.1 h)).below hbV).keep (fun _ _ _ => rfl) (fun b hb => by
                have h3 := hb.2.1
                exact ⟨hb.1, by omega, hb.2.2.1, by omega, hb.2.2.2.2⟩)
              have hLV : LbL O7 wY.heap.size R4 S g n tv w.heap.size ⟨(i : Int), 0, ks1 ++ [x]⟩ (fun b => b = O7 ∨ b = X8) w5 wV ⟨(j : Int), 0, [o] ++ bkL g n ks2⟩ y Aq2 Aw dq cw := ⟨by
                  have h := (HOX.out.kept kY (show ¬ O7 = XB from hne.1)).below hbV (HOX.out.kept kY (show ¬ O7 = XB from hne.1)).lt
                  rw [HNw.out] at h
                  exact h, by rw [← HYl.out]; exact hXV, ⟨by omega, by omega, by omega, .inr (by have := HLq.out.kept.size; omega)⟩, HY.out.1, HY.out.2.1, HY.out.2.2.1, HY.out.2.2.2.1, (HY.out.2.2.2.2.2.kept hkW (fun b hb h => by have h1 := HS.out b hb; rcases h with h | h <;> omega)), HLq.out.x1, (show I64 0 from ⟨by decide, by decide⟩), (by show ([o] ++ bkL g n ks2).length ≤ cw; rw [← HNw.out]; exact HLw.out.1), HLw.out.2, hOEV, HVy.out, by
                  have h := HLq.out.bk
                  rw [h, bkX_eq, if_pos (by rw [Int.toNat_natCast]; exact hjl), bkW_snoc], (HLq.out.kept.later hkW (fun b hb => by rcases hb with rfl | rfl; exact .inl (.inl rfl); exact hne.2.2.2))⟩
              rw [hYX] at hLV
              have HLV := Lib.hid hLV
              have HMs : Hid (nodesT y < gk ∧ nodesT y ≤ N) := Lib.hid (by have h := HNq.out; simp only [nodesT, nodesL_append, nodesL] at h; omega)
              clear hLV hOEV hYX hXY kY hbV hXV hzV hne hq1 hq2 hq3 hq4 hq5 hq6 hz7 hkW
              go_roundg (nodesT y)
              case rel => exact ⟨_, _, _, _, _, _, _, rfl, HLV.out, Nat.le_refl _, HMs.out.2⟩
              case measure => exact HMs.out.1
            case twodb3 =>
              go_simp
              go_at_call 56
              refine (kidsBk_any ks2 HKi.out wq.drew (some ⟨by_, oy, none⟩) dy S P2 HCq.out.1 HCq.out.2 (HPq.out.below (Below.refl wq.heap.size wq).drew) (by omega) (by omega) (HEy.out.below (Below.refl wq.heap.size wq).drew) (fun b hb => by have h1 := HS.out b hb; have h2 := HBq.out.size; have h3 := ((Below.refl wq.heap.size wq).drew).size; exact Nat.lt_of_lt_of_le h1 (Nat.le_trans h2 h3))).mono ?_
              rintro e' w8a ⟨v, rfl, hOw8a, hbw8a⟩
              replace hbw8a : Below wq.heap.size wq w8a := bundrew hbw8a
              obtain ⟨Ay, cy, ev, hly, hcy, _⟩ := hOw8a.form
              obtain ⟨ny, hny⟩ : ∃ ny, ny = (bkL g n ks2).length := ⟨_, rfl⟩
              have HNy := Lib.hid hny
              rw [← hny] at ev hly
              subst ev
              clear hcy hny
              have x0a : w8a.cell? ⟨XB, 0, none⟩ = some (.int .i64 (j : Int)) := (hbw8a.cell (p := ⟨XB, 0, none⟩) zX).trans x0
              have x2a : w8a.cell? ⟨XB, 2, none⟩ = some (.slice (some ⟨by_, oy, none⟩) (ks2.length + 1) dy) := (hbw8a.cell (p := ⟨XB, 2, none⟩) zX).trans x2
              have o0a : w8a.cell? ⟨O7, 0, none⟩ = some (.int .i64 o.rule) := (hbw8a.cell (p := ⟨O7, 0, none⟩) zO).trans o0
              have o1a : w8a.cell? ⟨O7, 1, none⟩ = some (.int .i64 o.term) := (hbw8a.cell (p := ⟨O7, 1, none⟩) zO).trans o1
              have o2a : w8a.cell? ⟨O7, 2, none⟩ = some (.slice Ao ol dO) := (hbw8a.cell (p := ⟨O7, 2, none⟩) zO).trans o2
              have zXa : XB < w8a.heap.size := Nat.lt_of_lt_of_le zX hbw8a.size
              have zOa : O7 < w8a.heap.size := Nat.lt_of_lt_of_le zO hbw8a.size
              refine hK.out _ _ ?hdbq9 (fun hHeld => ?rdbq9)
              case hdbq9 => ((try dsimp only); go_keep)
              clear hK Kq
              try simp only [Act.put, List.setIfInBounds_toArray, List.set_cons_zero, List.set_cons_succ]
              refine st_one (i := 3) rfl (by kernel_rfl) (by rfl) (fun Kq hK => ?_)
              go_simp
              obtain ⟨w8b, hw8b⟩ : ∃ w : World, w = (w8a.alloc (.cells #[.int .i64 o.rule, .int .i64 o.term, .slice Ao ol dO] 47)) := ⟨_, rfl⟩
              have hbw8b : Below w8a.heap.size w8a w8b := by rw [hw8b]; exact ((Below.refl _ _).alloc (Nat.le_refl _) _)
              have hzw8b : w8b.heap.size = w8a.heap.size + 1 := by rw [hw8b]; simp
              have hLw8b : Own w8b (fun b => w.heap.size ≤ b ∧ b ≠ O7 ∧ b ≠ XB ∧ b ≠ R4) w8a.heap.size 47 (.slice (some ⟨w8a.heap.size, 0, none⟩) 1 1) [o] := by
                have hbe : Below wq.heap.size wq (w8a.alloc (.cells #[.int .i64 o.rule, .int .i64 o.term, .slice Ao ol dO] 47)) := hbw8a.alloc hbw8a.size _
                have h := own_litT (w := w8a) (S := fun b => w.heap.size ≤ b ∧ b ≠ O7 ∧ b ≠ XB ∧ b ≠ R4) (e := 47) (x := o) (cs := [.int .i64 o.rule, .int .i64 o.term, .slice Ao ol dO]) (rd_tree.2 ⟨_, rfl, HLq.out.o1, HLq.out.o2, Vl.of_slice HOl.out HLq.out.o3 HLq.out.o4 ((HLq.out.oe.below hbe).keep (fun _ _ _ => rfl) (fun b hb => ⟨⟨hb.1, hb.2.2⟩, Nat.lt_of_lt_of_le hb.2.1 (hbw8a.size)⟩))⟩)
                rw [hw8b]
                exact h
              rw [← hw8b]
              clear hw8b
              have x0b : w8b.cell? ⟨XB, 0, none⟩ = some (.int .i64 (j : Int)) := (hbw8b.cell (p := ⟨XB, 0, none⟩) zXa).trans x0a
              have x2b : w8b.cell? ⟨XB, 2, none⟩ = some (.slice (some ⟨by_, oy, none⟩) (ks2.length + 1) dy) := (hbw8b.cell (p := ⟨XB, 2, none⟩) zXa).trans x2a
              have o0b : w8b.cell? ⟨O7, 0, none⟩ = some (.int .i64 o.rule) := (hbw8b.cell (p := ⟨O7, 0, none⟩) zOa).trans o0a
              have o1b : w8b.cell? ⟨O7, 1, none⟩ = some (.int .i64 o.term) := (hbw8b.cell (p := ⟨O7, 1, none⟩) zOa).trans o1a
              have o2b : w8b.cell? ⟨O7, 2, none⟩ = some (.slice Ao ol dO) := (hbw8b.cell (p := ⟨O7, 2, none⟩) zOa).trans o2a
              have zXb : XB < w8b.heap.size := Nat.lt_of_lt_of_le zXa hbw8b.size
              have zOb : O7 < w8b.heap.size := Nat.lt_of_lt_of_le zOa hbw8b.size
              refine hK.out _ _ ?hdbq3 (fun hHeld => ?rdbq3)
              case hdbq3 => ((try dsimp only); go_keep)
              clear hK Kq
              try simp only [Act.put, List.setIfInBounds_toArray, List.set_cons_zero, List.set_cons_succ]
              refine st_one (i := 10) rfl (by kernel_rfl) (by rfl) (fun Kq hK => ?_)
              have hb8 : Below wq.heap.size wq w8b := bthen hbw8a hbw8b hbw8a.size
              have hO8 : Own w8b (fun b => w.heap.size ≤ b ∧ b ≠ O7 ∧ b ≠ XB ∧ b ≠ R4) w8a.heap.size 47 (.slice (some ⟨w8a.heap.size, 0, none⟩) 1 1) [o] := hLw8b
              have hys8 : Els w8b (OwnT (fun b => w.heap.size ≤ b ∧ b ≠ O7 ∧ b ≠ XB ∧ b ≠ R4) w8a.heap.size (.slice (some ⟨w8a.heap.size, 0, none⟩) 1 1) w8b) (bkL g n ks2) Ay := by
                refine ((hOw8a.vl.els).2.2.2.below hbw8b).keep (fun _ _ _ => rfl) (fun b hb => ?_)
                have h1 : wq.heap.size ≤ b := hb.1.resolve_left id
                have h2 := hzw8b
                have h3 := HBq.out.size
                have h4 := HLq.out.ob.lt
                have h5 := HLq.out.xb.lt
                have h6 := HRq.out.lt
                exact ⟨.inl ⟨by omega, by omega, by omega, by omega⟩, (fun h => by injection h with h; dsimp only at h; omega), by omega⟩
              refine wp_ownMany _ _ _ elemTree rfl rfl hO8 (bkL g n ks2) rfl HNy.out hys8 (by rw [bkL_map, List.length_map]; simp; omega) (by rw [bkL_map, List.length_map]; simp; omega) (by have := hb8.size; have := hbw8a.size; have := hbw8b.size; omega) ?_
              intro v' w9 hO9 hg9 _
              have hb9 : Below wq.heap.size wq w9 := bgrown hb8 hg9 hO8 (by have := hbw8a.size; first | exact Nat.le_refl _ | omega) hb8.size
              obtain ⟨Aw, cw, ev, hlw, hcw, _⟩ := hO9.form
              obtain ⟨nw, hnw⟩ : ∃ nw, nw = ([o] ++ bkL g n ks2).length := ⟨_, rfl⟩
              have HNw := Lib.hid hnw
              rw [← hnw] at ev hlw
              subst ev
              have HO9 : Hid (Own w9 (fun b => w.heap.size ≤ b ∧ b ≠ O7 ∧ b ≠ XB ∧ b ≠ R4) wq.heap.size 47 (.slice Aw nw cw) ([o] ++ bkL g n ks2)) := Lib.hid (hO9.base (by have := hbw8a.size; first | exact Nat.le_refl _ | omega))
              have HB9 := Lib.hid hb9
              have HLw := Lib.hid (And.intro hlw hcw)
              have x09 : w9.cell? ⟨XB, 0, none⟩ = some (.int .i64 (j : Int)) := (hb9.cell (p := ⟨XB, 0, none⟩) zX).trans x0
              have x29 : w9.cell? ⟨XB, 2, none⟩ = some (.slice (some ⟨by_, oy, none⟩) (ks2.length + 1) dy) := (hb9.cell (p := ⟨XB, 2, none⟩) zX).trans x2
              have o09 : w9.cell? ⟨O7, 0, none⟩ = some (.int .i64 o.rule) := (hb9.cell (p := ⟨O7, 0, none⟩) zO).trans o0
              have o19 : w9.cell? ⟨O7, 1, none⟩ = some (.int .i64 o.term) := (hb9.cell (p := ⟨O7, 1, none⟩) zO).trans o1
              have o29 : w9.cell? ⟨O7, 2, none⟩ = some (.slice Ao ol dO) := (hb9.cell (p := ⟨O7, 2, none⟩) zO).trans o2
              have zX9 : XB < w9.heap.size := Nat.lt_of_lt_of_le zX hb9.size
              have zO9 : O7 < w9.heap.size := Nat.lt_of_lt_of_le zO hb9.size
              have HOb9 := Lib.hid (HLq.out.ob.below hb9 HLq.out.ob.lt)
              have fo0 := HOb9.out.frozen 0
              have fo1 := HOb9.out.frozen 1
              have fo2 := HOb9.out.frozen 2
              clear hO9 hg9 hnw hlw hcw hb8 hO8 hys8 hly hb9 hbw8a hbw8b hLw8b hOw8a hzw8b
              refine hK.out _ _ ?hdbq10 (fun hHeld => ?rdbq10)
              case hdbq10 => ((try dsimp only); go_keep)
              clear hK Kq
              try simp only [Act.put, List.setIfInBounds_toArray, List.set_cons_zero, List.set_cons_succ]
              refine st_pure (i := 11) (v := ?vdbq11) rfl (by kernel_rfl) (by kernel_rfl) (by kernel_rfl) (by kernel_rfl) (fun _ _ _ h => h) (by rfl) ?ydbq11 (.inl (by assumption)) ?rdbq11
              case ydbq11 => (intro w; go_simp; try with_reducible rfl)
              try simp only [Act.put, List.setIfInBounds_toArray, List.set_cons_zero, List.set_cons_succ]
              refine st_late (i := 12) rfl (by kernel_rfl) (by rfl) (by kernel_rfl) (fun Kq hK => ?_)
              go_simp
              refine hK.out _ _ ?_
              clear hK Kq
              try simp only [Act.put, List.setIfInBounds_toArray, List.set_cons_zero, List.set_cons_succ]
              refine wpAnyD_done (by kernel_rfl) ?_ _
              refine NoPanic.normal ?_
              go_upto_region 12 with (fail)
              generalize hwX : World.setCell _ _ _ = wX
              obtain ⟨hOX, kX⟩ := set3 HOb9.out (.int .i64 (j : Int)) (.int .i64 0) (.slice Aw nw cw)
              rw [hwX] at hOX kX
              have hne := HLq.out.ne
              have HKX : Hid (Kept (fun b => b = O7) wq wX) := Lib.hid ((Kept.of_below (fun b => b = O7) HB9.out).trans kX)
              have hXX := HLq.out.xb.kept HKX.out (fun h => hne.1 h.symm)
              have HOX := Lib.hid hOX
              have HOE : Hid (Els wX (fun b => w.heap.size ≤ b ∧ b < wX.heap.size ∧ b ≠ O7 ∧ b ≠ XB ∧ b ≠ R4) ([o] ++ bkL g n ks2) Aw) := Lib.hid (((HO9.out.vl.els).2.2.2.kept kX (fun b hb h => by
                rcases hb.1 with h1 | h1
                · exact h1.2.1 h
                · have h2 := HLq.out.ob.lt
                  omega)).keep (fun _ _ _ => rfl) (fun b hb => by
                have h3 := Nat.lt_of_lt_of_le hb.2 kX.size
                have h4 := HLq.out.ob.lt
                have h5 := HLq.out.xb.lt
                have h6 := HRq.out.lt
                have h7 := HBq.out.size
                rcases hb.1 with h1 | h1
                · exact ⟨h1.1, h3, h1.2⟩
                · exact ⟨by omega, h3, by omega, by omega, by omega⟩))
              have hyO : ¬ by_ = O7 := fun h => by have h1 := HS.out by_ HY.out.2.2.2.2.1; have h2 := HZ7.out; omega
              have hyX : ¬ by_ = XB := fun h => by have h1 := HS.out by_ HY.out.2.2.2.2.1; have h2 := hne.2.2.1; omega
              have y0x : wX.cell? ⟨by_, oy + ks2.length * 3, none⟩ = some (.int .i64 y.rule) := (HKX.out.cell (p := ⟨by_, oy + ks2.length * 3, none⟩) hbby hyO).trans y0
              have y1x : wX.cell? ⟨by_, oy + ks2.length * 3 + 1, none⟩ = some (.int .i64 y.term) := (HKX.out.cell (p := ⟨by_, oy + ks2.length * 3 + 1, none⟩) hbby hyO).trans y1
              have y2x : wX.cell? ⟨by_, oy + ks2.length * 3 + 1 + 1, none⟩ = some (.slice Aq2 yl dq) := (HKX.out.cell (p := ⟨by_, oy + ks2.length * 3 + 1 + 1, none⟩) hbby hyO).trans y2
              have zby : by_ < wX.heap.size := Nat.lt_of_lt_of_le hbby HKX.out.size
              have X0 : wX.cell? ⟨XB, 0, none⟩ = some (.int .i64 (j : Int)) := hXX.cell 0
              have X1 : wX.cell? ⟨XB, 1, none⟩ = some (.int .i64 0) := hXX.cell 1
              have X2 : wX.cell? ⟨XB, 2, none⟩ = some (.slice (some ⟨by_, oy, none⟩) (ks2.length + 1) dy) := by have h : wX.cell? ⟨XB, 2, none⟩ = some (.slice (some ⟨by_, oy, none⟩) (ks2 ++ [y]).length dy) := hXX.cell 2; simpa using h
              have fX0 := hXX.frozen 0
              have fX1 := hXX.frozen 1
              have fX2 := hXX.frozen 2
              have zXX := hXX.lt
              have HXX := Lib.hid hXX
              have hm0 : (0 : Int) ≤ (ks2.length : Int) := by omega
              have hm1 : (ks2.length : Int) < (ks2.length : Int) + 1 := by omega
              clear hwX hOX kX hXX x0 x2 o0 o1 o2 zX zO x09 x29 o09 o19 o29 zX9 zO9 fo0 fo1 fo2 y0 y1 y2 hne hyO
              go_wp2_with fail
              generalize hwY : World.setCell _ _ _ = wY
              obtain ⟨hXY, kY⟩ := set3 HXX.out (.int .i64 y.rule) (.int .i64 y.term) (.slice Aq2 yl dq)
              rw [hwY] at hXY kY
              have hYX : wY.heap.size = wX.heap.size := by rw [← hwY]; simp [World.setCell]
              obtain ⟨wV, hwV⟩ : ∃ wV : World, wV = wY.alloc (.cells #[.int .i64 y.rule, .int .i64 y.term, .slice Aq2 yl dq] 47) := ⟨_, rfl⟩
              have hbV : Below wY.heap.size wY wV := by rw [hwV]; exact (Below.refl _ _).alloc (Nat.le_refl _) _
              have hXV : Blk' wV wY.heap.size 47 #[.int .i64 y.rule, .int .i64 y.term, .slice Aq2 yl dq] := by rw [hwV]; exact Blk'.new _ _ _
              have hzV : wV.heap.size = wY.heap.size + 1 := by rw [hwV]; simp
              try rw [← hwV]
              have hne := HLq.out.ne
              have hq1 := HLq.out.ob.lt
              have hq2 := HLq.out.xb.lt
              have hq3 := HRq.out.lt
              have hq4 := HKX.out.size
              have hq5 := kY.size
              have hq6 := HBq.out.size
              have hz7 := HZ7.out
              have hkW : Kept (fun b => b = O7 ∨ b = XB) wq wV := ((HKX.out.mono (fun b _ h => .inl h)).trans (kY.mono (fun b _ h => .inr h))).below hbV
              have hOEV : Els wV (fun b => w.heap.size ≤ b ∧ b < wV.heap.size ∧ b ≠ O7 ∧ b ≠ wY.heap.size ∧ b ≠ R4) ([o] ++ bkL g n ks2) Aw := ((HOE.out.kept kY (fun b hb h => hb.2.2.2.1 h)).below hbV).keep (fun _ _ _ => rfl) (fun b hb => by
                have h3 := hb.2.1
                exact ⟨hb.1, by omega, hb.2.2.1, by omega, hb.2.2.2.2⟩)
              have hLV : LbL O7 wY.heap.size R4 S g n tv w.heap.size ⟨(i : Int), 0, ks1 ++ [x]⟩ (fun b => b = O7 ∨ b = X8) w5 wV ⟨(j : Int), 0, [o] ++ bkL g n ks2⟩ y Aq2 Aw dq cw := ⟨by
                  have h := (HOX.out.kept kY (show ¬ O7 = XB from hne.1)).below hbV (HOX.out.kept kY (show ¬ O7 = XB from hne.1)).lt
                  rw [HNw.out] at h
                  exact h, by rw [← HYl.out]; exact hXV, ⟨by omega, by omega, by omega, .inr (by have := HLq.out.kept.size; omega)⟩, HY.out.1, HY.out.2.1, HY.out.2.2.1, HY.out.2.2.2.1, (HY.out.2.2.2.2.2.kept hkW (fun b hb h => by have h1 := HS.out b hb; rcases h with h | h <;> omega)), HLq.out.x1, (show I64 0 from ⟨by decide, by decide⟩), (by show ([o] ++ bkL g n ks2).length ≤ cw; rw [← HNw.out]; exact HLw.out.1), HLw.out.2, hOEV, HVy.out, by
                  have h := HLq.out.bk
                  rw [h, bkX_eq, if_pos (by rw [Int.toNat_natCast]; exact hjl), bkW_snoc], (HLq.out.kept.later hkW (fun b hb => by rcases hb with rfl | rfl; exact .inl (.inl rfl); exact hne.2.2.2))⟩
              rw [hYX] at hLV
              have HLV := Lib.hid hLV
              have HMs : Hid (nodesT y < gk ∧ nodesT y ≤ N) := Lib.hid (by have h := HNq.out; simp only [nodesT, nodesL_append, nodesL] at h; omega)
              clear hLV hOEV hYX hXY kY hbV hXV hzV hne hq1 hq2 hq3 hq4 hq5 hq6 hz7 hkW
              go_roundg (nodesT y)
              case rel => exact ⟨_, _, _, _, _, _, _, rfl, HLV.out, Nat.le_refl _, HMs.out.2⟩
              case measure => exact HMs.out.1

end Go.Proofs.Ytecofoilghdedaa
