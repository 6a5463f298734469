/- Contract: factor.next: a step of factoring. -/
import Derived.Test.YtjdojogjogenkaaQw1
import Derived.Test.YtjdojogjogenkaaQp1
import Derived.Deep.QuietTactic
import Derived.BigQuiet
import Derived.Deep.Cut
namespace Go.Proofs.Ytjdojogjogenkaa
open Go.RowKit
set_option linter.unusedVariables false
theorem cmP_snoc (g : Gram) (l : List Nat) {p k : Nat} (h : l[p]? = some k) : cmP g l (p + 1) = min (cmP g l p) (comL (rulN g (l.headD 0)).right (rulN g k).right) := by
 unfold cmP
 rw [take_snoc h, List.foldl_append]
 rfl
theorem cmP_le (g : Gram) (l : List Nat) : ∀ p, cmP g l p ≤ (rulN g (l.headD 0)).right.length
 | 0 => by simp [cmP]
 | p + 1 => by
  have ih := cmP_le g l p
  cases h : l[p]? with
  | none => unfold cmP at ih ⊢; rw [List.take_of_length_le (by have := List.getElem?_eq_none_iff.1 h; omega)]; rw [List.take_of_length_le (by have := List.getElem?_eq_none_iff.1 h; omega)] at ih; exact ih
  | some k => rw [cmP_snoc g l h]; omega
theorem cmP_com (g : Gram) (l : List Nat) : ∀ (p i k : Nat), i < p → l[i]? = some k → cmP g l p ≤ comL (rulN g (l.headD 0)).right (rulN g k).right
 | 0, i, k, h, _ => by omega
 | p + 1, i, k, h, hk => by
  cases h2 : l[p]? with
  | none => have := List.getElem?_eq_none_iff.1 h2; have := (List.getElem?_eq_some_iff.1 hk).1; have := cmP_com g l p i k (by omega) hk; unfold cmP at this ⊢; rw [List.take_of_length_le (by omega)]; rw [List.take_of_length_le (by omega)] at this; exact this
  | some k2 =>
   rw [cmP_snoc g l h2]
   by_cases e : i = p
   ·subst e
    rw [hk] at h2
    injection h2 with h2
    subst h2
    omega
   ·have := cmP_com g l p i k (by omega) hk
    omega
theorem cmP_pos (g : Gram) (l : List Nat) (h0 : 1 ≤ (rulN g (l.headD 0)).right.length) (h : ∀ k ∈ l, 1 ≤ comL (rulN g (l.headD 0)).right (rulN g k).right) : ∀ p, 1 ≤ cmP g l p
 | 0 => by simpa [cmP] using h0
 | p + 1 => by
  have ih := cmP_pos g l h0 h p
  cases h2 : l[p]? with
  | none => unfold cmP at ih ⊢; rw [List.take_of_length_le (by have := List.getElem?_eq_none_iff.1 h2; omega)]; rw [List.take_of_length_le (by have := List.getElem?_eq_none_iff.1 h2; omega)] at ih; exact ih
  | some k =>
   rw [cmP_snoc g l h2]
   have := h k (List.mem_of_getElem? h2)
   omega
theorem com_pos {a b : List Sym} {x : Sym} (ha : a.head? = some x) (hb : b.head? = some x) : 1 ≤ comL a b := by
 cases a with
 | nil => simp at ha
 | cons y a =>
  cases b with
  | nil => simp at hb
  | cons z b =>
   simp at ha hb
   rw [comL, if_pos (by rw [ha, hb])]
   omega
theorem NxtL.head {g : Gram} {l : List Nat} {a : Int} {x : Sym} (h : NxtL g l a x) : l.headD 0 ∈ l := by
 cases l with
 | nil => exact absurd rfl h.ne
 | cons x l => simp
theorem NxtL.fac {g : Gram} {l : List Nat} {a : Int} {x : Sym} (h : NxtL g l a x) : FacL g l (cmP g l l.length) a ((rulN g (l.headD 0)).right.take (cmP g l l.length)) ∧ 1 ≤ cmP g l l.length := by
 have hle := cmP_le g l l.length
 refine ⟨⟨h.ne, h.nodup, by rw [List.length_take]; omega, fun k hk => ?_⟩, ?_⟩
 ·obtain ⟨q, h1, h2, h3⟩ := h.each k hk
  obtain ⟨i, hi⟩ := List.getElem?_of_mem hk
  have hil := (List.getElem?_eq_some_iff.1 hi).1
  have hc := cmP_com g l l.length i k hil hi
  obtain ⟨c1, c2, c3⟩ := comL_le (rulN g (l.headD 0)).right (rulN g k).right
  rw [rulN_of h1] at hc c1 c2 c3
  refine ⟨q, h1, h2, ?_, by omega⟩
  have e := congrArg (List.take (cmP g l l.length)) c3
  rw [List.take_take, List.take_take, Nat.min_eq_left hc] at e
  exact e.symm
 ·obtain ⟨q0, h1, h2, h3⟩ := h.each _ h.head
  refine cmP_pos g l ?_ (fun k hk => ?_) _
  ·rw [rulN_of h1]
   cases hr : q0.right with
   | nil => rw [hr] at h3; simp at h3
   | cons _ _ => simp
  ·obtain ⟨q, e1, e2, e3⟩ := h.each k hk
   rw [rulN_of h1, rulN_of e1]
   exact com_pos h3 e3
theorem nodup_leF : ∀ (n : Nat) (l : List Nat), l.Nodup → (∀ x ∈ l, x < n) → l.length ≤ n
 | 0, l, _, h => by
  cases l with
  | nil => simp
  | cons x l => exact absurd (h x (by simp)) (by omega)
 | n + 1, l, hd, h => by
  have ih := nodup_leF n (l.erase n) (hd.erase n) (fun x hx => by
   have h1 := (hd.mem_erase_iff).1 hx
   have := h x h1.2
   omega)
  have : l.length ≤ (l.erase n).length + 1 := by
   rw [List.length_erase]
   split <;> omega
  omega
theorem Els.symFlatF {w : World} {S S' : Nat → Prop} {l : List Sym} {g o : Nat} (h : Els w S l (some ⟨g, o, none⟩)) (hg : S' g) : Els w S' l (some ⟨g, o, none⟩) := by
 intro hne
 obtain ⟨b, o', e, hb, hx⟩ := h hne
 injection e with e
 injection e with e1 e2 _
 subst e1; subst e2
 exact ⟨g, o, rfl, hg, fun i x hi => by
  obtain ⟨cs, h1, h2⟩ := hx i x hi
  exact ⟨cs, h1, h2⟩⟩
theorem Own.symEls {w : World} {S : Nat → Prop} {base : Nat} {e : TypeId} {A : Option Addr} {n c : Nat} {l : List Sym} (h : Own w S base e (.slice A n c) l) : Els w (fun b => base ≤ b ∧ b < w.heap.size) l A := by
 obtain ⟨A', c', hv, _, _, hor⟩ := h.form
 injection hv with e1 e2 e3
 subst e1; subst e2; subst e3
 rcases hor with rfl | ⟨g, rfl, h1, h2⟩
 ·exact fun h => absurd rfl h
 ·exact Els.symFlatF h.vl.els.2.2.2 ⟨h1, h2⟩
theorem keepK_hit {l : List Nat} {j : Nat} (h : keepB l j = true) : keepK l (j + 1) = keepK l j ++ [j] := by unfold keepK; rw [List.range_succ, List.filter_append]; simp [h]
theorem keepK_miss {l : List Nat} {j : Nat} (h : keepB l j = false) : keepK l (j + 1) = keepK l j := by unfold keepK; rw [List.range_succ, List.filter_append]; simp [h]
theorem keepK_len (l : List Nat) (j : Nat) : (keepK l j).length ≤ j := by have := List.length_filter_le (keepB l) (List.range j); unfold keepK; simpa using this
theorem facTo_zero (g : Gram) (l : List Nat) : facTo g l 0 = List.replicate g.rules.length (-1) := by
 refine List.ext_getElem? (fun i => ?_)
 by_cases hi : i < g.rules.length
 ·rw [facTo_get hi, if_neg (by omega), List.getElem?_replicate, if_pos hi]
 ·rw [List.getElem?_eq_none (by rw [facTo_len]; omega), List.getElem?_eq_none (by simpa using hi)]
theorem facTo_hit {g : Gram} {l : List Nat} {j : Nat} (hj : j < g.rules.length) (h : j ∉ l) : facTo g l (j + 1) = (facTo g l j).set j ((keepK l j).length : Int) := by
 refine List.ext_getElem? (fun i => ?_)
 by_cases hi : i < g.rules.length
 ·rw [facTo_get hi, List.getElem?_set]
  by_cases e : j = i
  ·subst e
   rw [if_pos ⟨by omega, h⟩, if_pos rfl, if_pos (by rw [facTo_len]; exact hj)]
  ·rw [if_neg e, facTo_get hi]
   congr 1
   by_cases h1 : i < j ∧ i ∉ l
   ·rw [if_pos ⟨by omega, h1.2⟩, if_pos h1]
   ·rw [if_neg h1, if_neg (fun h2 => h1 ⟨by omega, h2.2⟩)]
 ·rw [List.getElem?_eq_none (by rw [facTo_len]; omega), List.getElem?_eq_none (by rw [List.length_set, facTo_len]; omega)]
theorem facTo_miss {g : Gram} {l : List Nat} {j : Nat} (h : j ∈ l) : facTo g l (j + 1) = facTo g l j := by
 refine List.ext_getElem? (fun i => ?_)
 by_cases hi : i < g.rules.length
 ·rw [facTo_get hi, facTo_get hi]
  congr 1
  by_cases h1 : i < j ∧ i ∉ l
  ·rw [if_pos ⟨by omega, h1.2⟩, if_pos h1]
  ·rw [if_neg h1, if_neg (fun h2 => h1 ⟨by rcases Nat.lt_or_ge i j with h3 | h3; exact h3; exact absurd (show i = j by omega) (fun e => h2.2 (e ▸ h)), h2.2⟩)]
 ·rw [List.getElem?_eq_none (by rw [facTo_len]; omega), List.getElem?_eq_none (by rw [facTo_len]; omega)]
theorem facTail_zero (g : Gram) (l : List Nat) : facTail g l 0 = List.replicate g.rules.length (-1) := by
 refine List.ext_getElem? (fun i => ?_)
 by_cases hi : i < g.rules.length
 ·rw [facTail_get hi, if_neg (by simp), List.getElem?_replicate, if_pos hi]
 ·rw [List.getElem?_eq_none (by rw [facTail_len]; omega), List.getElem?_eq_none (by simpa using hi)]
theorem facTail_hit {g : Gram} {l : List Nat} {p k : Nat} (hd : l.Nodup) (hk : l[p]? = some k) : facTail g l (p + 1) = (facTail g l p).set k (((keepK l g.rules.length).length + p : Nat) : Int) := by
 have hx : l.idxOf k = p := by
  have h6 : l[l.idxOf k]? = some k := List.getElem?_eq_some_iff.2 ⟨List.idxOf_lt_length_of_mem (List.mem_of_getElem? hk), List.getElem_idxOf _⟩
  exact nodup_at hd h6 hk
 refine List.ext_getElem? (fun i => ?_)
 by_cases hi : i < g.rules.length
 ·rw [facTail_get hi, List.getElem?_set, take_snoc hk]
  by_cases e : k = i
  ·subst e
   rw [if_pos (by simp), if_pos rfl, if_pos (by rw [facTail_len]; exact hi), hx]
  ·rw [if_neg e, facTail_get hi]
   congr 1
   by_cases h1 : i ∈ l.take p
   ·rw [if_pos (by simp [h1]), if_pos h1]
   ·rw [if_neg h1, if_neg (by simp [h1]; exact fun h => e h.symm)]
 ·rw [List.getElem?_eq_none (by rw [facTail_len]; omega), List.getElem?_eq_none (by rw [List.length_set, facTail_len]; omega)]
def NxR (S : Nat → Prop) (g : Gram) (l : List Nat) (m : Nat) (w w8 : World) (OB SB gT gL : Nat) (A : Option Addr) (c : Nat) (i : Value) (wr : World) : Prop :=
 ∃ (j : Nat) (v : Value), j ≤ g.rules.length ∧ i = .int .i64 (j : Int) ∧ Own wr S w8.heap.size 33 v ((keepK l j).map (facRule g l m)) ∧
  Blk' wr OB 25 #[.int .i64 g.terms, .int .i64 (g.nons + 1), .int .i64 g.start, v] ∧
  Blk' wr SB 70 #[.int .i64 (m : Int), .int .i64 (if l.headD 0 < j then facHd l else 0), .slice (some ⟨gT, 0, none⟩) g.rules.length g.rules.length, .slice (some ⟨gL, 0, none⟩) g.rules.length g.rules.length, .int .i64 g.terms, .int .i64 g.nons, .int .i64 g.start, .slice A g.rules.length c] ∧
  Blk' wr gT 3 (icells (facTo g l j)) ∧ Kept (fun b => b = OB ∨ b = SB ∨ b = gT) w8 wr
def NxT (S : Nat → Prop) (g : Gram) (l : List Nat) (m : Nat) (w w8 w9 : World) (OB gL : Nat) (i : Value) (wr : World) : Prop :=
 ∃ (p : Nat) (v : Value), p ≤ l.length ∧ i = .int .i64 (p : Int) ∧ Own wr S w8.heap.size 33 v ((keepK l g.rules.length).map (facRule g l m) ++ (l.take p).map (fun k => ⟨g.nons, (rulN g k).right.drop m⟩)) ∧
  Blk' wr OB 25 #[.int .i64 g.terms, .int .i64 (g.nons + 1), .int .i64 g.start, v] ∧
  Blk' wr gL 3 (icells (facTail g l p)) ∧ Kept (fun b => b = OB ∨ b = gL ∨ w8.heap.size ≤ b) w9 wr
def RetNxtS (S : Nat → Prop) (g : Gram) (l : List Nat) (A : Option Addr) (c : Nat) (w : World) (e : Ending) (w' : World) : Prop :=
 ∃ (A1 : Option Addr) (c1 TB LB : Nat), e = .returned (.tuple #[.agg #[.int .i64 g.terms, .int .i64 (g.nons + 1), .int .i64 g.start, .slice A1 (facG g l (cmP g l l.length)).rules.length c1], .agg #[.int .i64 (cmP g l l.length : Nat), .int .i64 (facHd l), .slice (some ⟨TB, 0, none⟩) g.rules.length g.rules.length, .slice (some ⟨LB, 0, none⟩) g.rules.length g.rules.length, .int .i64 g.terms, .int .i64 g.nons, .int .i64 g.start, .slice A g.rules.length c]]) ∧
  (facG g l (cmP g l l.length)).rules.length ≤ c1 ∧ c1 ≤ 9223372036854775807 ∧ Els w' (fun b => (S b ∨ w.heap.size ≤ b) ∧ b < w'.heap.size) (facG g l (cmP g l l.length)).rules A1 ∧
  w.heap.size ≤ TB ∧ Blk' w' TB 3 (icells (facTo g l g.rules.length)) ∧ w.heap.size ≤ LB ∧ Blk' w' LB 3 (icells (facTail g l l.length)) ∧ Below w.heap.size w w'
set_option maxRecDepth 100000 in
set_option maxHeartbeats 8000000 in
theorem nextS_any (g : Gram) (n : Nat) (l : List Nat) (a : Int) (x : Sym) (A LA : Option Addr) (c lc : Nat) (S : Nat → Prop) (w : World) (hgn : g.nons = (n : Int)) (hv : ValidG g) (hnx : NxtL g l a x) (hlc : g.rules.length ≤ c) (hc : c ≤ 9223372036854775807) (hA : Els w S g.rules A) (hS : ∀ b, S b → b < w.heap.size) (hL : Els w S (natsI l) LA) :
  Calls Try.prog 42 #[.agg #[.int .i64 g.terms, .int .i64 g.nons, .int .i64 g.start, .slice A g.rules.length c], .slice LA l.length lc] w (RetNxtS S g l A c w) := by
 obtain ⟨gt, gn, gs, rs⟩ := g
 dsimp only at *
 subst hgn
 obtain ⟨k0, l', rfl⟩ : ∃ k0 l', l = k0 :: l' := by
  cases l with
  | nil => exact absurd rfl hnx.ne
  | cons x l => exact ⟨x, l, rfl⟩
 have hrl : rs.length ≤ 32 := hv.len
 obtain ⟨q0, hq0, _, _⟩ := hnx.each k0 (by simp)
 have hk0l : k0 < rs.length := (List.getElem?_eq_some_iff.1 hq0).1
 have hq0r : q0.right.length ≤ 4 := (hv.rules q0 (List.mem_of_getElem? hq0)).2.2.1
 have HV := Lib.hid hv
 have HNx := Lib.hid hnx
 have HS := Lib.hid hS
 have HQ0 := Lib.hid hq0
 have hll : (k0 :: l').length ≤ 32 := by
  have h1 := nodup_leF (rs.length) (k0 :: l') hnx.nodup (fun y hy => by
   obtain ⟨q, h, _⟩ := hnx.each y hy
   exact (List.getElem?_eq_some_iff.1 h).1)
  omega
 have hl32 : l'.length + 1 ≤ 32 := by simpa using hll
 obtain ⟨w0, hw0⟩ : ∃ w0 : World, w0 = ((w.alloc (.cells #[.int .i64 gt, .int .i64 (n : Int), .int .i64 gs, .slice A rs.length c] 25)).alloc (.cells #[.int .i64 0, .int .i64 0, .int .i64 0, .slice none 0 0] 25)).alloc (.cells #[.int .i64 0, .int .i64 0, .slice none 0 0, .slice none 0 0, .int .i64 0, .int .i64 0, .int .i64 0, .slice none 0 0] 70) := ⟨_, rfl⟩
 have HW0 := Lib.hid hw0
 have HB0 : Hid (Below w.heap.size w w0) := Lib.hid (by rw [hw0]; exact ((((Below.refl _ _).alloc (Nat.le_refl _) _).alloc (by simp) _).alloc (by simp; omega) _))
 have HG0 : Hid (Blk' w0 w.heap.size 25 #[.int .i64 gt, .int .i64 (n : Int), .int .i64 gs, .slice A rs.length c]) := Lib.hid (by rw [hw0]; exact ((Blk'.new _ _ _).alloc _).alloc _)
 have HR4 : Hid (Blk' w0 (w.heap.size + 1) 25 #[.int .i64 0, .int .i64 0, .int .i64 0, .slice none 0 0]) := Lib.hid (by rw [hw0]; exact (Blk'.new' _ _ _ (by simp)).alloc _)
 have HR5 : Hid (Blk' w0 (w.heap.size + 1 + 1) 70 #[.int .i64 0, .int .i64 0, .slice none 0 0, .slice none 0 0, .int .i64 0, .int .i64 0, .int .i64 0, .slice none 0 0]) := Lib.hid (by rw [hw0]; exact Blk'.new' _ _ _ (by simp))
 have HZ0 : Hid (w0.heap.size = w.heap.size + 1 + 1 + 1) := Lib.hid (by rw [hw0]; simp)
 have HA := Lib.hid (hA.below HB0.out)
 have HL := Lib.hid (hL.below HB0.out)
 clear hw0 hA hL hv hnx hS hlc
 go_enter Try.func42, Try.ntmps42
 go_upto_region 1 with (fail)
 rw [← HW0.out]
 obtain ⟨bl, ol, rfl, _, hbl, _, hl0⟩ := HL.out.int (natsI_get (l := k0 :: l') (p := 0) rfl)
 obtain ⟨br, orr, Ar, cr, rfl, _, hbr, _, hrc, hcr, hEr, _, hr1⟩ := HA.out.rule HQ0.out
 have HEr := Lib.hid hEr
 have hl0 : w0.cell? ⟨bl, ol, none⟩ = some (.int .i64 (k0 : Int)) := by simpa using hl0
 have g3 : w0.cell? ⟨w.heap.size, 3, none⟩ = some (.slice (some ⟨br, orr, none⟩) rs.length c) := HG0.out.cell 3
 have zg := HG0.out.lt
 have hk0 : (0 : Int) ≤ (k0 : Int) := by omega
 have hk1 : (k0 : Int) < (rs.length : Int) := by omega
 have hp0 : (0 : Int) < (l'.length : Int) + 1 := by omega
 clear hEr
 go_wp2_with fail
 go_quiet (fail)
 obtain ⟨wd, hwd⟩ : ∃ q : World, q = w0.drewN nq := ⟨_, rfl⟩
 rw [← hwd]
 have hbd : Below w0.heap.size w0 wd := by rw [hwd]; exact bdrewN (Below.refl _ _)
 have HBd := Lib.hid (bthen HB0.out hbd HB0.out.size)
 have HGd := Lib.hid (HG0.out.below hbd HG0.out.lt)
 have HR4d := Lib.hid (HR4.out.below hbd HR4.out.lt)
 have HR5d := Lib.hid (HR5.out.below hbd HR5.out.lt)
 have HAd := Lib.hid (HA.out.below hbd)
 have HLd := Lib.hid (HL.out.below hbd)
 have HZd : Hid (w0.heap.size ≤ wd.heap.size) := Lib.hid hbd.size
 clear hwd hbd g3 hl0 hr1 zg hbl hbr HB0 HG0 HR4 HR5 HA HL HEr
 have HC0 : Hid (cmP ⟨gt, (n : Int), gs, rs⟩ (k0 :: l') 0 = q0.right.length) := Lib.hid (by unfold cmP; rw [List.take_zero]; show (rulN ⟨gt, (n : Int), gs, rs⟩ k0).right.length = _; rw [rulN_of HQ0.out])
 go_wp2_with fail
 go_loopw [6, 27] (fun v i wr => ∃ p m : Nat, p ≤ l'.length + 1 ∧ i = .int .i64 (p : Int) ∧ v = .int .i64 (m : Int) ∧ Hid (m = cmP ⟨gt, (n : Int), gs, rs⟩ (k0 :: l') p) ∧ m ≤ 4 ∧ Below wd.heap.size wd wr) (fun _ i _ => l'.length + 1 - (intOf i).toNat)
 case atStart => exact ⟨0, q0.right.length, Nat.zero_le _, rfl, rfl, Lib.hid HC0.out.symm, hq0r, Below.refl _ _⟩
 case round =>
  obtain ⟨wo, hwo⟩ : ∃ wo : World, wo = wr := ⟨_, rfl⟩
  subst hwo
  obtain ⟨p, m, hp, rfl, rfl, HM, hm4, hb⟩ := hrel
  have HBo := Lib.hid hb
  have HGo := Lib.hid (HGd.out.below hb HGd.out.lt)
  have HAo := Lib.hid (HAd.out.below hb)
  have HLo := Lib.hid (HLd.out.below hb)
  clear hb
  by_cases hpl : p < l'.length + 1
  ·have hpl' : (p : Int) < (l'.length : Int) + 1 := by omega
   have hpp : (0 : Int) ≤ (p : Int) := by omega
   obtain ⟨k, hk⟩ := get_some (show p < (k0 :: l').length from hpl)
   obtain ⟨q, hq, _, _⟩ := HNx.out.each k (List.mem_of_getElem? hk)
   have hql : k < rs.length := (List.getElem?_eq_some_iff.1 hq).1
   have hqr : q.right.length ≤ 4 := (HV.out.rules q (List.mem_of_getElem? hq)).2.2.1
   obtain ⟨bl2, ol2, e2, _, hbl, _, hlp⟩ := HLo.out.int (natsI_get hk)
   injection e2 with e2
   injection e2 with e3 e4 _
   subst e3; subst e4
   obtain ⟨_, _, e2, _, _, _, hl0⟩ := HLo.out.int (natsI_get (l := k0 :: l') (p := 0) rfl)
   injection e2 with e2
   injection e2 with e3 e4 _
   subst e3; subst e4
   have hl0 : wo.cell? ⟨bl, ol, none⟩ = some (.int .i64 (k0 : Int)) := by simpa using hl0
   obtain ⟨_, _, Ar0, cr0, e2, _, hbr, _, hrc0, hcr0, hE0, _, hr0⟩ := HAo.out.rule HQ0.out
   injection e2 with e2
   injection e2 with e3 e4 _
   subst e3; subst e4
   obtain ⟨_, _, Ar1, cr1, e2, _, _, _, hrc1, hcr1, hE1, _, hr1⟩ := HAo.out.rule hq
   injection e2 with e2
   injection e2 with e3 e4 _
   subst e3; subst e4
   have HE0 := Lib.hid hE0
   have HE1 := Lib.hid hE1
   obtain ⟨M, hM⟩ : ∃ M, M = min m (comL q0.right q.right) := ⟨_, rfl⟩
   have hmn1 : (if comL q0.right q.right < m then ((comL q0.right q.right : Nat) : Int) else (m : Int)) = (M : Int) := by rw [hM]; split <;> omega
   have hmn2 : min (m : Int) ((comL q0.right q.right : Nat) : Int) = (M : Int) := by rw [hM]; omega
   have hM4 : M ≤ 4 := by omega
   have HM2 : Hid (M = cmP ⟨gt, (n : Int), gs, rs⟩ (k0 :: l') (p + 1)) := Lib.hid (by
    rw [hM, cmP_snoc _ _ hk, ← HM.out]
    show _ = min m (comL (rulN ⟨gt, (n : Int), gs, rs⟩ k0).right (rulN ⟨gt, (n : Int), gs, rs⟩ k).right)
    rw [rulN_of HQ0.out, rulN_of hq])
   have g3 : wo.cell? ⟨w.heap.size, 3, none⟩ = some (.slice (some ⟨br, orr, none⟩) rs.length c) := HGo.out.cell 3
   have zg := HGo.out.lt
   have hk2 : (0 : Int) ≤ (k : Int) := by omega
   have hk3 : (k : Int) < (rs.length : Int) := by omega
   clear hE0 hE1 hk hq hql hM
   go_upto_region 5 with (fail)
   refine wp_region_noPanic ?_
   refine wp_region_held_drew (S := (fun w' => w'.cell? ⟨w.heap.size, 3, none⟩ = some (.slice (some ⟨br, orr, none⟩) rs.length c) ∧ w'.cell? ⟨bl, ol, none⟩ = some (.int .i64 (k0 : Int)) ∧ w'.cell? ⟨br, orr + k0 * 2 + 1, none⟩ = some (.slice Ar0 q0.right.length cr0) ∧ w'.cell? ⟨br, orr + k * 2 + 1, none⟩ = some (.slice Ar1 q.right.length cr1))) (by kernel_rfl) ?hm (fun hHeld => ?bm)
   case hm => ((try dsimp only); go_keep)
   refine take_run (i := 0) (v := ?vm0) rfl (by kernel_rfl) (by kernel_rfl) (by kernel_rfl) (fun _ _ _ h => h) (by rfl) ?ym0 (by assumption) ?rm0
   case ym0 => (intro w hSw; (try dsimp only at hSw); go_simp; try with_reducible rfl)
   try simp only [Act.put, List.setIfInBounds_toArray, List.set_cons_zero, List.set_cons_succ]
   refine take_run (i := 1) (v := ?vm1) rfl (by kernel_rfl) (by kernel_rfl) (by kernel_rfl) (fun _ _ _ h => h) (by rfl) ?ym1 (by assumption) ?rm1
   case ym1 => (intro w hSw; (try dsimp only at hSw); go_simp; try with_reducible rfl)
   try simp only [Act.put, List.setIfInBounds_toArray, List.set_cons_zero, List.set_cons_succ]
   refine take_run (i := 2) (v := ?vm2) rfl (by kernel_rfl) (by kernel_rfl) (by kernel_rfl) (fun _ _ _ h => h) (by rfl) ?ym2 (by assumption) ?rm2
   case ym2 => (intro w hSw; (try dsimp only at hSw); go_simp; try with_reducible rfl)
   try simp only [Act.put, List.setIfInBounds_toArray, List.set_cons_zero, List.set_cons_succ]
   refine take_run (i := 3) (v := ?vm3) rfl (by kernel_rfl) (by kernel_rfl) (by kernel_rfl) (fun _ _ _ h => h) (by rfl) ?ym3 (by assumption) ?rm3
   case ym3 => (intro w hSw; (try dsimp only at hSw); go_simp; try with_reducible rfl)
   try simp only [Act.put, List.setIfInBounds_toArray, List.set_cons_zero, List.set_cons_succ]
   refine take_run (i := 4) (v := ?vm4) rfl (by kernel_rfl) (by kernel_rfl) (by kernel_rfl) (fun _ _ _ h => h) (by rfl) ?ym4 (by assumption) ?rm4
   case ym4 => (intro w hSw; (try dsimp only at hSw); go_simp; try with_reducible rfl)
   try simp only [Act.put, List.setIfInBounds_toArray, List.set_cons_zero, List.set_cons_succ]
   refine take_run (i := 5) (v := ?vm5) rfl (by kernel_rfl) (by kernel_rfl) (by kernel_rfl) (fun _ _ _ h => h) (by rfl) ?ym5 (by assumption) ?rm5
   case ym5 => (intro w hSw; (try dsimp only at hSw); go_simp; try with_reducible rfl)
   try simp only [Act.put, List.setIfInBounds_toArray, List.set_cons_zero, List.set_cons_succ]
   refine take_run (i := 6) (v := ?vm6) rfl (by kernel_rfl) (by kernel_rfl) (by kernel_rfl) (fun _ _ _ h => h) (by rfl) ?ym6 (by assumption) ?rm6
   case ym6 => (intro w hSw; (try dsimp only at hSw); go_simp; try with_reducible rfl)
   try simp only [Act.put, List.setIfInBounds_toArray, List.set_cons_zero, List.set_cons_succ]
   refine take_run (i := 7) (v := ?vm7) rfl (by kernel_rfl) (by kernel_rfl) (by kernel_rfl) (fun _ _ _ h => h) (by rfl) ?ym7 (by assumption) ?rm7
   case ym7 => (intro w hSw; (try dsimp only at hSw); go_simp; try with_reducible rfl)
   try simp only [Act.put, List.setIfInBounds_toArray, List.set_cons_zero, List.set_cons_succ]
   refine take_run (i := 8) (v := ?vm8) rfl (by kernel_rfl) (by kernel_rfl) (by kernel_rfl) (fun _ _ _ h => h) (by rfl) ?ym8 (by assumption) ?rm8
   case ym8 => (intro w hSw; (try dsimp only at hSw); go_simp; try with_reducible rfl)
   try simp only [Act.put, List.setIfInBounds_toArray, List.set_cons_zero, List.set_cons_succ]
   refine take_run (i := 9) (v := ?vm9) rfl (by kernel_rfl) (by kernel_rfl) (by kernel_rfl) (fun _ _ _ h => h) (by rfl) ?ym9 (by assumption) ?rm9
   case ym9 => (intro w hSw; (try dsimp only at hSw); go_simp; try with_reducible rfl)
   try simp only [Act.put, List.setIfInBounds_toArray, List.set_cons_zero, List.set_cons_succ]
   refine take_run (i := 10) (v := ?vm10) rfl (by kernel_rfl) (by kernel_rfl) (by kernel_rfl) (fun _ _ _ h => h) (by rfl) ?ym10 (by assumption) ?rm10
   case ym10 => (intro w hSw; (try dsimp only at hSw); go_simp; try with_reducible rfl)
   try simp only [Act.put, List.setIfInBounds_toArray, List.set_cons_zero, List.set_cons_succ]
   refine take_run (i := 11) (v := ?vm11) rfl (by kernel_rfl) (by kernel_rfl) (by kernel_rfl) (fun _ _ _ h => h) (by rfl) ?ym11 (by assumption) ?rm11
   case ym11 => (intro w hSw; (try dsimp only at hSw); go_simp; try with_reducible rfl)
   try simp only [Act.put, List.setIfInBounds_toArray, List.set_cons_zero, List.set_cons_succ]
   refine take_run (i := 12) (v := ?vm12) rfl (by kernel_rfl) (by kernel_rfl) (by kernel_rfl) (fun _ _ _ h => h) (by rfl) ?ym12 (by assumption) ?rm12
   case ym12 => (intro w hSw; (try dsimp only at hSw); go_simp; try with_reducible rfl)
   try simp only [Act.put, List.setIfInBounds_toArray, List.set_cons_zero, List.set_cons_succ]
   refine take_run (i := 13) (v := ?vm13) rfl (by kernel_rfl) (by kernel_rfl) (by kernel_rfl) (fun _ _ _ h => h) (by rfl) ?ym13 (by assumption) ?rm13
   case ym13 => (intro w hSw; (try dsimp only at hSw); go_simp; try with_reducible rfl)
   try simp only [Act.put, List.setIfInBounds_toArray, List.set_cons_zero, List.set_cons_succ]
   refine take_run (i := 14) (v := ?vm14) rfl (by kernel_rfl) (by kernel_rfl) (by kernel_rfl) (fun _ _ _ h => h) (by rfl) ?ym14 (by assumption) ?rm14
   case ym14 => (intro w hSw; (try dsimp only at hSw); go_simp; try with_reducible rfl)
   try simp only [Act.put, List.setIfInBounds_toArray, List.set_cons_zero, List.set_cons_succ]
   refine take_call (i := 15) rfl (by kernel_rfl) (by rfl) (fun Kq hK => ?_)
   go_simp
   go_at_call 63
   refine (common_any Ar0 Ar1 q0.right q.right cr0 cr1 S S wo.drew (by omega) (by omega) (HE0.out.below ((Below.refl _ _).drew : Below wo.heap.size wo wo.drew)) (HE1.out.below ((Below.refl _ _).drew : Below wo.heap.size wo wo.drew))).mono ?_
   rintro e w2 ⟨rfl, hb2⟩
   have hb3 : Below wo.heap.size wo w2 := bthen ((Below.refl _ _).drew : Below wo.heap.size wo wo.drew) hb2 (Nat.le_refl _)
   have HB3 := Lib.hid hb3
   obtain ⟨hx2, hf2⟩ := bcell hb3
   have hz2 := hb3.size
   clear hb2 hb3
   refine hK.out _ _ ?hm15 (fun hHeld => ?rm15)
   case hm15 => ((try dsimp only); go_keep)
   clear hK Kq
   try simp only [Act.put, List.setIfInBounds_toArray, List.set_cons_zero, List.set_cons_succ]
   refine take_run (i := 16) (v := ?vm16) rfl (by kernel_rfl) (by kernel_rfl) (by kernel_rfl) (fun _ _ _ h => h) (by rfl) ?ym16 (by assumption) ?rm16
   case ym16 => (intro w hSw; (try dsimp only at hSw); go_simp; try with_reducible rfl)
   try simp only [Act.put, List.setIfInBounds_toArray, List.set_cons_zero, List.set_cons_succ]
   refine take_run (i := 17) (v := ?vm17) rfl (by kernel_rfl) (by kernel_rfl) (by kernel_rfl) (fun _ _ _ h => h) (by rfl) ?ym17 (by assumption) ?rm17
   case ym17 => (intro w hSw; (try dsimp only at hSw); go_simp; try with_reducible rfl)
   try simp only [Act.put, List.setIfInBounds_toArray, List.set_cons_zero, List.set_cons_succ]
   refine wpAnyH_done (by kernel_rfl) ?_ _
   refine NoPanic.normal ?_
   have HB9 := Lib.hid (bthen HBo.out HB3.out HBo.out.size)
   clear hx2 hf2 hz2 HB3
   go_wp2
   go_roundw
   case rel => exact ⟨p + 1, M, by omega, by go_num, rfl, HM2, hM4, HB9.out⟩
   case measure => simp [intOf]; omega
  ·have hpe : p = l'.length + 1 := by omega
   subst hpe
   have HMf : Hid (m = cmP ⟨gt, (n : Int), gs, rs⟩ (k0 :: l') (k0 :: l').length) := Lib.hid HM.out
   have zz0 : w.heap.size < wo.heap.size := HGo.out.lt
   clear HM
   go_wp2_with fail
   go_cut [9] (fun v wx => ∃ gT gL SB : Nat, v = .pointer (some ⟨SB, 0, none⟩) ∧ Blk' wx SB 70 #[.int .i64 (m : Int), .int .i64 0, .slice (some ⟨gT, 0, none⟩) rs.length rs.length, .slice (some ⟨gL, 0, none⟩) rs.length rs.length, .int .i64 gt, .int .i64 (n : Int), .int .i64 gs, .slice (some ⟨br, orr, none⟩) rs.length c] ∧ Blk' wx gT 3 (icells (List.replicate rs.length (-1))) ∧ Blk' wx gL 3 (icells (List.replicate rs.length (-1))) ∧ wo.heap.size ≤ gT ∧ wo.heap.size ≤ gL ∧ wo.heap.size ≤ SB ∧ gT ≠ gL ∧ gT ≠ SB ∧ gL ≠ SB ∧ Below wo.heap.size wo wx)
   case first =>
    have G0 : wo.cell? ⟨w.heap.size, 0, none⟩ = some (.int .i64 gt) := HGo.out.cell 0
    have G1 : wo.cell? ⟨w.heap.size, 1, none⟩ = some (.int .i64 (n : Int)) := HGo.out.cell 1
    have G2 : wo.cell? ⟨w.heap.size, 2, none⟩ = some (.int .i64 gs) := HGo.out.cell 2
    have G3 : wo.cell? ⟨w.heap.size, 3, none⟩ = some (.slice (some ⟨br, orr, none⟩) rs.length c) := HGo.out.cell 3
    have zG := HGo.out.lt
    refine wp_region_noPanic ?_
    refine wp_region_held_drew (S := (fun w' => w'.cell? ⟨w.heap.size, 0, none⟩ = some (.int .i64 gt) ∧ w'.cell? ⟨w.heap.size, 1, none⟩ = some (.int .i64 (n : Int)) ∧ w'.cell? ⟨w.heap.size, 2, none⟩ = some (.int .i64 gs) ∧ w'.cell? ⟨w.heap.size, 3, none⟩ = some (.slice (some ⟨br, orr, none⟩) rs.length c))) (by kernel_rfl) ?hs (fun hHeld => ?bs)
    case hs => ((try dsimp only); go_keep)
    clear G0 G1 G2 G3 zG
    obtain ⟨wr, hwr⟩ : ∃ q : World, q = wo.drew := ⟨_, rfl⟩
    rw [← hwr] at hHeld ⊢
    have hb : Below wo.heap.size wo wr := by rw [hwr]; exact (Below.refl _ _).drew
    have HBwr := Lib.hid hb
    have HGwr := Lib.hid (HGo.out.below hb HGo.out.lt)
    have zwr : wo.heap.size ≤ wr.heap.size := hb.size
    clear hwr hb
    refine take_run (i := 0) (v := ?vs0) rfl (by kernel_rfl) (by kernel_rfl) (by kernel_rfl) (fun _ _ _ h => h) (by rfl) ?ys0 (by assumption) ?rs0
    case ys0 => (intro w hSw; (try dsimp only at hSw); go_simp; try with_reducible rfl)
    try simp only [Act.put, List.setIfInBounds_toArray, List.set_cons_zero, List.set_cons_succ]
    refine take_run (i := 2) (v := ?vs2) rfl (by kernel_rfl) (by kernel_rfl) (by kernel_rfl) (fun _ _ _ h => h) (by rfl) ?ys2 (by assumption) ?rs2
    case ys2 => (intro w hSw; (try dsimp only at hSw); go_simp; try with_reducible rfl)
    try simp only [Act.put, List.setIfInBounds_toArray, List.set_cons_zero, List.set_cons_succ]
    refine take_run (i := 3) (v := ?vs3) rfl (by kernel_rfl) (by kernel_rfl) (by kernel_rfl) (fun _ _ _ h => h) (by rfl) ?ys3 (by assumption) ?rs3
    case ys3 => (intro w hSw; (try dsimp only at hSw); go_simp; try with_reducible rfl)
    try simp only [Act.put, List.setIfInBounds_toArray, List.set_cons_zero, List.set_cons_succ]
    refine take_run (i := 4) (v := ?vs4) rfl (by kernel_rfl) (by kernel_rfl) (by kernel_rfl) (fun _ _ _ h => h) (by rfl) ?ys4 (by assumption) ?rs4
    case ys4 => (intro w hSw; (try dsimp only at hSw); go_simp; try with_reducible rfl)
    try simp only [Act.put, List.setIfInBounds_toArray, List.set_cons_zero, List.set_cons_succ]
    refine take_run (i := 7) (v := ?vs7) rfl (by kernel_rfl) (by kernel_rfl) (by kernel_rfl) (fun _ _ _ h => h) (by rfl) ?ys7 (by assumption) ?rs7
    case ys7 => (intro w hSw; (try dsimp only at hSw); go_simp; try with_reducible rfl)
    try simp only [Act.put, List.setIfInBounds_toArray, List.set_cons_zero, List.set_cons_succ]
    refine take_run (i := 8) (v := ?vs8) rfl (by kernel_rfl) (by kernel_rfl) (by kernel_rfl) (fun _ _ _ h => h) (by rfl) ?ys8 (by assumption) ?rs8
    case ys8 => (intro w hSw; (try dsimp only at hSw); go_simp; try with_reducible rfl)
    try simp only [Act.put, List.setIfInBounds_toArray, List.set_cons_zero, List.set_cons_succ]
    refine take_run (i := 9) (v := ?vs9) rfl (by kernel_rfl) (by kernel_rfl) (by kernel_rfl) (fun _ _ _ h => h) (by rfl) ?ys9 (by assumption) ?rs9
    case ys9 => (intro w hSw; (try dsimp only at hSw); go_simp; try with_reducible rfl)
    try simp only [Act.put, List.setIfInBounds_toArray, List.set_cons_zero, List.set_cons_succ]
    refine take_run (i := 11) (v := ?vs11) rfl (by kernel_rfl) (by kernel_rfl) (by kernel_rfl) (fun _ _ _ h => h) (by rfl) ?ys11 (by assumption) ?rs11
    case ys11 => (intro w hSw; (try dsimp only at hSw); go_simp; try with_reducible rfl)
    try simp only [Act.put, List.setIfInBounds_toArray, List.set_cons_zero, List.set_cons_succ]
    refine take_thr (i := 1) (j := 6) (k := 13) rfl rfl rfl (by kernel_rfl) (by rfl) (by rfl) (by rfl) (fun Kq hK => ?oneq) (fun Kq hK => ?twoq) (fun Kq hK => ?thrq)
    case oneq =>
     go_simp
     obtain ⟨u1, hw⟩ : ∃ q : World, q = wr.alloc (.cells #[.int .i64 (-1)] 3) := ⟨_, rfl⟩
     rw [← hw]
     have HQu1 : Hid (Blk' u1 wr.heap.size 3 #[.int .i64 (-1)]) := Lib.hid (by rw [hw]; exact Blk'.new _ _ _)
     have hb : Below wr.heap.size wr u1 := by rw [hw]; exact (Below.refl _ _).alloc (Nat.le_refl _) _
     have HBu1 := Lib.hid (bthen HBwr.out hb HBwr.out.size)
     have zu1 : wr.heap.size ≤ u1.heap.size := hb.size
     have HGu1 := Lib.hid (HGwr.out.below hb HGwr.out.lt)
     clear hb HGwr
     have yu1 : wr.heap.size < u1.heap.size := by rw [hw]; simp
     clear hw
     have G0 : u1.cell? ⟨w.heap.size, 0, none⟩ = some (.int .i64 gt) := HGu1.out.cell 0
     have G1 : u1.cell? ⟨w.heap.size, 1, none⟩ = some (.int .i64 (n : Int)) := HGu1.out.cell 1
     have G2 : u1.cell? ⟨w.heap.size, 2, none⟩ = some (.int .i64 gs) := HGu1.out.cell 2
     have G3 : u1.cell? ⟨w.heap.size, 3, none⟩ = some (.slice (some ⟨br, orr, none⟩) rs.length c) := HGu1.out.cell 3
     have zG := HGu1.out.lt
     refine hK.out _ _ ?hqo (fun hHeld => ?rqo)
     case hqo => ((try dsimp only); go_keep)
     clear hK Kq G0 G1 G2 G3 zG
     try simp only [Act.put, List.setIfInBounds_toArray, List.set_cons_zero, List.set_cons_succ]
     refine take_thr (i := 5) (j := 6) (k := 13) rfl rfl rfl (by kernel_rfl) (by rfl) (by rfl) (by rfl) (fun Kq hK => ?oneqo) (fun Kq hK => ?twoqo) (fun Kq hK => ?thrqo)
     case oneqo =>
      go_simp
      go_at_call 64
      refine (repeat_any (wr.heap.size) 0 rs.length u1 (by omega) hrl (HQu1.out.cell 0)).mono ?_
      rintro e u2 ⟨gT, rfl, hg, hgl, hb0⟩
      have HTu2 := Lib.hid hg
      have yu2 : gT < u2.heap.size := hg.lt
      have hb : Below u1.heap.size u1 u2 := hb0
      have HBu2 := Lib.hid (bthen HBu1.out hb HBu1.out.size)
      have zu2 : u1.heap.size ≤ u2.heap.size := hb.size
      have HGu2 := Lib.hid (HGu1.out.below hb HGu1.out.lt)
      have HQu2 := Lib.hid (HQu1.out.below hb HQu1.out.lt)
      clear hb HGu1 HQu1
      have xu2 : u1.heap.size ≤ gT := hgl
      clear hg hb0 hgl
      have G0 : u2.cell? ⟨w.heap.size, 0, none⟩ = some (.int .i64 gt) := HGu2.out.cell 0
      have G1 : u2.cell? ⟨w.heap.size, 1, none⟩ = some (.int .i64 (n : Int)) := HGu2.out.cell 1
      have G2 : u2.cell? ⟨w.heap.size, 2, none⟩ = some (.int .i64 gs) := HGu2.out.cell 2
      have G3 : u2.cell? ⟨w.heap.size, 3, none⟩ = some (.slice (some ⟨br, orr, none⟩) rs.length c) := HGu2.out.cell 3
      have zG := HGu2.out.lt
      refine hK.out _ _ ?hqoo (fun hHeld => ?rqoo)
      case hqoo => ((try dsimp only); go_keep)
      clear hK Kq G0 G1 G2 G3 zG
      try simp only [Act.put, List.setIfInBounds_toArray, List.set_cons_zero, List.set_cons_succ]
      refine take_two (i := 6) (j := 13) rfl rfl (by kernel_rfl) (by rfl) (by rfl) (fun Kq hK => ?oneqoo) (fun Kq hK => ?twoqoo)
      case oneqoo =>
       go_simp
       obtain ⟨u3, hw⟩ : ∃ q : World, q = u2.alloc (.cells #[.int .i64 (-1)] 3) := ⟨_, rfl⟩
       rw [← hw]
       have HPu3 : Hid (Blk' u3 u2.heap.size 3 #[.int .i64 (-1)]) := Lib.hid (by rw [hw]; exact Blk'.new _ _ _)
       have hb : Below u2.heap.size u2 u3 := by rw [hw]; exact (Below.refl _ _).alloc (Nat.le_refl _) _
       have HBu3 := Lib.hid (bthen HBu2.out hb HBu2.out.size)
       have zu3 : u2.heap.size ≤ u3.heap.size := hb.size
       have HGu3 := Lib.hid (HGu2.out.below hb HGu2.out.lt)
       have HQu3 := Lib.hid (HQu2.out.below hb HQu2.out.lt)
       have HTu3 := Lib.hid (HTu2.out.below hb HTu2.out.lt)
       clear hb HGu2 HQu2 HTu2
       have yu3 : u2.heap.size < u3.heap.size := by rw [hw]; simp
       clear hw
       have G0 : u3.cell? ⟨w.heap.size, 0, none⟩ = some (.int .i64 gt) := HGu3.out.cell 0
       have G1 : u3.cell? ⟨w.heap.size, 1, none⟩ = some (.int .i64 (n : Int)) := HGu3.out.cell 1
       have G2 : u3.cell? ⟨w.heap.size, 2, none⟩ = some (.int .i64 gs) := HGu3.out.cell 2
       have G3 : u3.cell? ⟨w.heap.size, 3, none⟩ = some (.slice (some ⟨br, orr, none⟩) rs.length c) := HGu3.out.cell 3
       have zG := HGu3.out.lt
       refine hK.out _ _ ?hqooo (fun hHeld => ?rqooo)
       case hqooo => ((try dsimp only); go_keep)
       clear hK Kq G0 G1 G2 G3 zG
       try simp only [Act.put, List.setIfInBounds_toArray, List.set_cons_zero, List.set_cons_succ]
       refine take_two (i := 10) (j := 13) rfl rfl (by kernel_rfl) (by rfl) (by rfl) (fun Kq hK => ?oneqooo) (fun Kq hK => ?twoqooo)
       case oneqooo =>
        go_simp
        go_at_call 64
        refine (repeat_any (u2.heap.size) 0 rs.length u3 (by omega) hrl (HPu3.out.cell 0)).mono ?_
        rintro e u4 ⟨gL, rfl, hg, hgl, hb0⟩
        have HLu4 := Lib.hid hg
        have yu4 : gL < u4.heap.size := hg.lt
        have hb : Below u3.heap.size u3 u4 := hb0
        have HBu4 := Lib.hid (bthen HBu3.out hb HBu3.out.size)
        have zu4 : u3.heap.size ≤ u4.heap.size := hb.size
        have HGu4 := Lib.hid (HGu3.out.below hb HGu3.out.lt)
        have HQu4 := Lib.hid (HQu3.out.below hb HQu3.out.lt)
        have HTu4 := Lib.hid (HTu3.out.below hb HTu3.out.lt)
        have HPu4 := Lib.hid (HPu3.out.below hb HPu3.out.lt)
        clear hb HGu3 HQu3 HTu3 HPu3
        have xu4 : u3.heap.size ≤ gL := hgl
        clear hg hb0 hgl
        have G0 : u4.cell? ⟨w.heap.size, 0, none⟩ = some (.int .i64 gt) := HGu4.out.cell 0
        have G1 : u4.cell? ⟨w.heap.size, 1, none⟩ = some (.int .i64 (n : Int)) := HGu4.out.cell 1
        have G2 : u4.cell? ⟨w.heap.size, 2, none⟩ = some (.int .i64 gs) := HGu4.out.cell 2
        have G3 : u4.cell? ⟨w.heap.size, 3, none⟩ = some (.slice (some ⟨br, orr, none⟩) rs.length c) := HGu4.out.cell 3
        have zG := HGu4.out.lt
        refine hK.out _ _ ?hqoooo (fun hHeld => ?rqoooo)
        case hqoooo => ((try dsimp only); go_keep)
        clear hK Kq G0 G1 G2 G3 zG
        try simp only [Act.put, List.setIfInBounds_toArray, List.set_cons_zero, List.set_cons_succ]
        refine take_run (i := 12) (v := ?vqoooob12) rfl (by kernel_rfl) (by kernel_rfl) (by kernel_rfl) (fun _ _ _ h => h) (by rfl) ?yqoooob12 (by assumption) ?rqoooob12
        case yqoooob12 => (intro w hSw; (try dsimp only at hSw); go_simp; try with_reducible rfl)
        try simp only [Act.put, List.setIfInBounds_toArray, List.set_cons_zero, List.set_cons_succ]
        refine take_call (i := 13) rfl (by kernel_rfl) (by rfl) (fun Kq hK => ?_)
        go_simp
        obtain ⟨u5, hw⟩ : ∃ q : World, q = u4.alloc (.cells #[.int .i64 0, .int .i64 0, .slice none 0 0, .slice none 0 0, .int .i64 0, .int .i64 0, .int .i64 0, .slice none 0 0] 70) := ⟨_, rfl⟩
        rw [← hw]
        have HSu5 : Hid (Blk' u5 u4.heap.size 70 #[.int .i64 0, .int .i64 0, .slice none 0 0, .slice none 0 0, .int .i64 0, .int .i64 0, .int .i64 0, .slice none 0 0]) := Lib.hid (by rw [hw]; exact Blk'.new _ _ _)
        have hb : Below u4.heap.size u4 u5 := by rw [hw]; exact (Below.refl _ _).alloc (Nat.le_refl _) _
        have HBu5 := Lib.hid (bthen HBu4.out hb HBu4.out.size)
        have zu5 : u4.heap.size ≤ u5.heap.size := hb.size
        have HGu5 := Lib.hid (HGu4.out.below hb HGu4.out.lt)
        have HQu5 := Lib.hid (HQu4.out.below hb HQu4.out.lt)
        have HTu5 := Lib.hid (HTu4.out.below hb HTu4.out.lt)
        have HPu5 := Lib.hid (HPu4.out.below hb HPu4.out.lt)
        have HLu5 := Lib.hid (HLu4.out.below hb HLu4.out.lt)
        clear hb HGu4 HQu4 HTu4 HPu4 HLu4
        have yu5 : u4.heap.size < u5.heap.size := by rw [hw]; simp
        clear hw
        have G0 : u5.cell? ⟨w.heap.size, 0, none⟩ = some (.int .i64 gt) := HGu5.out.cell 0
        have G1 : u5.cell? ⟨w.heap.size, 1, none⟩ = some (.int .i64 (n : Int)) := HGu5.out.cell 1
        have G2 : u5.cell? ⟨w.heap.size, 2, none⟩ = some (.int .i64 gs) := HGu5.out.cell 2
        have G3 : u5.cell? ⟨w.heap.size, 3, none⟩ = some (.slice (some ⟨br, orr, none⟩) rs.length c) := HGu5.out.cell 3
        have zG := HGu5.out.lt
        refine hK.out _ _ ?hqooooa (fun hHeld => ?rqooooa)
        case hqooooa => ((try dsimp only); go_keep)
        clear hK Kq G0 G1 G2 G3 zG
        try simp only [Act.put, List.setIfInBounds_toArray, List.set_cons_zero, List.set_cons_succ]
        refine take_call (i := 14) rfl (by kernel_rfl) (by rfl) (fun Kq hK => ?_)
        have G0 : u5.cell? ⟨w.heap.size, 0, none⟩ = some (.int .i64 gt) := HGu5.out.cell 0
        have G1 : u5.cell? ⟨w.heap.size, 1, none⟩ = some (.int .i64 (n : Int)) := HGu5.out.cell 1
        have G2 : u5.cell? ⟨w.heap.size, 2, none⟩ = some (.int .i64 gs) := HGu5.out.cell 2
        have G3 : u5.cell? ⟨w.heap.size, 3, none⟩ = some (.slice (some ⟨br, orr, none⟩) rs.length c) := HGu5.out.cell 3
        have zG := HGu5.out.lt
        have S0 : u5.cell? ⟨u4.heap.size, 0, none⟩ = some (.int .i64 0) := HSu5.out.cell 0
        have fS0 := HSu5.out.frozen 0
        have S1 : u5.cell? ⟨u4.heap.size, 1, none⟩ = some (.int .i64 0) := HSu5.out.cell 1
        have fS1 := HSu5.out.frozen 1
        have S2 : u5.cell? ⟨u4.heap.size, 2, none⟩ = some (.slice none 0 0) := HSu5.out.cell 2
        have fS2 := HSu5.out.frozen 2
        have S3 : u5.cell? ⟨u4.heap.size, 3, none⟩ = some (.slice none 0 0) := HSu5.out.cell 3
        have fS3 := HSu5.out.frozen 3
        have S4 : u5.cell? ⟨u4.heap.size, 4, none⟩ = some (.int .i64 0) := HSu5.out.cell 4
        have fS4 := HSu5.out.frozen 4
        have S5 : u5.cell? ⟨u4.heap.size, 5, none⟩ = some (.int .i64 0) := HSu5.out.cell 5
        have fS5 := HSu5.out.frozen 5
        have S6 : u5.cell? ⟨u4.heap.size, 6, none⟩ = some (.int .i64 0) := HSu5.out.cell 6
        have fS6 := HSu5.out.frozen 6
        have S7 : u5.cell? ⟨u4.heap.size, 7, none⟩ = some (.slice none 0 0) := HSu5.out.cell 7
        have fS7 := HSu5.out.frozen 7
        have zS := HSu5.out.lt
        have nS : ¬ u4.heap.size = w.heap.size := by have := zz0; omega
        have nS2 : ¬ w.heap.size = u4.heap.size := by have := zz0; omega
        go_simp
        refine hK.out _ _ ?hqooooaz (fun hHeld => ?rqooooaz)
        case hqooooaz => ((try dsimp only); go_keep)
        clear hK Kq
        try simp only [Act.put, List.setIfInBounds_toArray, List.set_cons_zero, List.set_cons_succ]
        refine wpAnyH_done (by kernel_rfl) ?_ _
        refine NoPanic.normal ?_
        go_wp2_with fail
        go_meet
        generalize hwF : World.setCell _ _ _ = wF
        obtain ⟨hR, kF⟩ := set8 HSu5.out (.int .i64 (m : Int)) (.int .i64 0) (.slice (some ⟨gT, 0, none⟩) rs.length rs.length) (.slice (some ⟨gL, 0, none⟩) rs.length rs.length) (.int .i64 gt) (.int .i64 (n : Int)) (.int .i64 gs) (.slice (some ⟨br, orr, none⟩) rs.length c)
        rw [hwF] at hR kF
        have zF := kF.size
        exact ⟨gT, gL, u4.heap.size, rfl, hR, HTu5.out.kept kF (by omega), HLu5.out.kept kF (by omega), by omega, by omega, by omega, by omega, by omega, by omega, (HBu5.out).trans (kF.to_below (B := wo.heap.size) (fun b hb => by omega) HBu5.out.size)⟩
       case twoqooo =>
        go_simp
        obtain ⟨u6, hw⟩ : ∃ q : World, q = u3.alloc (.cells #[.int .i64 0, .int .i64 0, .slice none 0 0, .slice none 0 0, .int .i64 0, .int .i64 0, .int .i64 0, .slice none 0 0] 70) := ⟨_, rfl⟩
        rw [← hw]
        have HSu6 : Hid (Blk' u6 u3.heap.size 70 #[.int .i64 0, .int .i64 0, .slice none 0 0, .slice none 0 0, .int .i64 0, .int .i64 0, .int .i64 0, .slice none 0 0]) := Lib.hid (by rw [hw]; exact Blk'.new _ _ _)
        have hb : Below u3.heap.size u3 u6 := by rw [hw]; exact (Below.refl _ _).alloc (Nat.le_refl _) _
        have HBu6 := Lib.hid (bthen HBu3.out hb HBu3.out.size)
        have zu6 : u3.heap.size ≤ u6.heap.size := hb.size
        have HGu6 := Lib.hid (HGu3.out.below hb HGu3.out.lt)
        have HQu6 := Lib.hid (HQu3.out.below hb HQu3.out.lt)
        have HTu6 := Lib.hid (HTu3.out.below hb HTu3.out.lt)
        have HPu6 := Lib.hid (HPu3.out.below hb HPu3.out.lt)
        clear hb HGu3 HQu3 HTu3 HPu3
        have yu6 : u3.heap.size < u6.heap.size := by rw [hw]; simp
        clear hw
        have G0 : u6.cell? ⟨w.heap.size, 0, none⟩ = some (.int .i64 gt) := HGu6.out.cell 0
        have G1 : u6.cell? ⟨w.heap.size, 1, none⟩ = some (.int .i64 (n : Int)) := HGu6.out.cell 1
        have G2 : u6.cell? ⟨w.heap.size, 2, none⟩ = some (.int .i64 gs) := HGu6.out.cell 2
        have G3 : u6.cell? ⟨w.heap.size, 3, none⟩ = some (.slice (some ⟨br, orr, none⟩) rs.length c) := HGu6.out.cell 3
        have zG := HGu6.out.lt
        refine hK.out _ _ ?hqooot (fun hHeld => ?rqooot)
        case hqooot => ((try dsimp only); go_keep)
        clear hK Kq G0 G1 G2 G3 zG
        try simp only [Act.put, List.setIfInBounds_toArray, List.set_cons_zero, List.set_cons_succ]
        refine take_call (i := 10) rfl (by kernel_rfl) (by rfl) (fun Kq hK => ?_)
        go_simp
        go_at_call 64
        refine (repeat_any (u2.heap.size) 0 rs.length u6 (by omega) hrl (HPu6.out.cell 0)).mono ?_
        rintro e u7 ⟨gL, rfl, hg, hgl, hb0⟩
        have HLu7 := Lib.hid hg
        have yu7 : gL < u7.heap.size := hg.lt
        have hb : Below u6.heap.size u6 u7 := hb0
        have HBu7 := Lib.hid (bthen HBu6.out hb HBu6.out.size)
        have zu7 : u6.heap.size ≤ u7.heap.size := hb.size
        have HGu7 := Lib.hid (HGu6.out.below hb HGu6.out.lt)
        have HQu7 := Lib.hid (HQu6.out.below hb HQu6.out.lt)
        have HTu7 := Lib.hid (HTu6.out.below hb HTu6.out.lt)
        have HPu7 := Lib.hid (HPu6.out.below hb HPu6.out.lt)
        have HSu7 := Lib.hid (HSu6.out.below hb HSu6.out.lt)
        clear hb HGu6 HQu6 HTu6 HPu6 HSu6
        have xu7 : u6.heap.size ≤ gL := hgl
        clear hg hb0 hgl
        have G0 : u7.cell? ⟨w.heap.size, 0, none⟩ = some (.int .i64 gt) := HGu7.out.cell 0
        have G1 : u7.cell? ⟨w.heap.size, 1, none⟩ = some (.int .i64 (n : Int)) := HGu7.out.cell 1
        have G2 : u7.cell? ⟨w.heap.size, 2, none⟩ = some (.int .i64 gs) := HGu7.out.cell 2
        have G3 : u7.cell? ⟨w.heap.size, 3, none⟩ = some (.slice (some ⟨br, orr, none⟩) rs.length c) := HGu7.out.cell 3
        have zG := HGu7.out.lt
        refine hK.out _ _ ?hqooota (fun hHeld => ?rqooota)
        case hqooota => ((try dsimp only); go_keep)
        clear hK Kq G0 G1 G2 G3 zG
        try simp only [Act.put, List.setIfInBounds_toArray, List.set_cons_zero, List.set_cons_succ]
        refine take_run (i := 12) (v := ?vqoootab12) rfl (by kernel_rfl) (by kernel_rfl) (by kernel_rfl) (fun _ _ _ h => h) (by rfl) ?yqoootab12 (by assumption) ?rqoootab12
        case yqoootab12 => (intro w hSw; (try dsimp only at hSw); go_simp; try with_reducible rfl)
        try simp only [Act.put, List.setIfInBounds_toArray, List.set_cons_zero, List.set_cons_succ]
        refine take_call (i := 14) rfl (by kernel_rfl) (by rfl) (fun Kq hK => ?_)
        have G0 : u7.cell? ⟨w.heap.size, 0, none⟩ = some (.int .i64 gt) := HGu7.out.cell 0
        have G1 : u7.cell? ⟨w.heap.size, 1, none⟩ = some (.int .i64 (n : Int)) := HGu7.out.cell 1
        have G2 : u7.cell? ⟨w.heap.size, 2, none⟩ = some (.int .i64 gs) := HGu7.out.cell 2
        have G3 : u7.cell? ⟨w.heap.size, 3, none⟩ = some (.slice (some ⟨br, orr, none⟩) rs.length c) := HGu7.out.cell 3
        have zG := HGu7.out.lt
        have S0 : u7.cell? ⟨u3.heap.size, 0, none⟩ = some (.int .i64 0) := HSu7.out.cell 0
        have fS0 := HSu7.out.frozen 0
        have S1 : u7.cell? ⟨u3.heap.size, 1, none⟩ = some (.int .i64 0) := HSu7.out.cell 1
        have fS1 := HSu7.out.frozen 1
        have S2 : u7.cell? ⟨u3.heap.size, 2, none⟩ = some (.slice none 0 0) := HSu7.out.cell 2
        have fS2 := HSu7.out.frozen 2
        have S3 : u7.cell? ⟨u3.heap.size, 3, none⟩ = some (.slice none 0 0) := HSu7.out.cell 3
        have fS3 := HSu7.out.frozen 3
        have S4 : u7.cell? ⟨u3.heap.size, 4, none⟩ = some (.int .i64 0) := HSu7.out.cell 4
        have fS4 := HSu7.out.frozen 4
        have S5 : u7.cell? ⟨u3.heap.size, 5, none⟩ = some (.int .i64 0) := HSu7.out.cell 5
        have fS5 := HSu7.out.frozen 5
        have S6 : u7.cell? ⟨u3.heap.size, 6, none⟩ = some (.int .i64 0) := HSu7.out.cell 6
        have fS6 := HSu7.out.frozen 6
        have S7 : u7.cell? ⟨u3.heap.size, 7, none⟩ = some (.slice none 0 0) := HSu7.out.cell 7
        have fS7 := HSu7.out.frozen 7
        have zS := HSu7.out.lt
        have nS : ¬ u3.heap.size = w.heap.size := by have := zz0; omega
        have nS2 : ¬ w.heap.size = u3.heap.size := by have := zz0; omega
        go_simp
        refine hK.out _ _ ?hqoootaz (fun hHeld => ?rqoootaz)
        case hqoootaz => ((try dsimp only); go_keep)
        clear hK Kq
        try simp only [Act.put, List.setIfInBounds_toArray, List.set_cons_zero, List.set_cons_succ]
        refine wpAnyH_done (by kernel_rfl) ?_ _
        refine NoPanic.normal ?_
        go_wp2_with fail
        go_meet
        generalize hwF : World.setCell _ _ _ = wF
        obtain ⟨hR, kF⟩ := set8 HSu7.out (.int .i64 (m : Int)) (.int .i64 0) (.slice (some ⟨gT, 0, none⟩) rs.length rs.length) (.slice (some ⟨gL, 0, none⟩) rs.length rs.length) (.int .i64 gt) (.int .i64 (n : Int)) (.int .i64 gs) (.slice (some ⟨br, orr, none⟩) rs.length c)
        rw [hwF] at hR kF
        have zF := kF.size
        exact ⟨gT, gL, u3.heap.size, rfl, hR, HTu7.out.kept kF (by omega), HLu7.out.kept kF (by omega), by omega, by omega, by omega, by omega, by omega, by omega, (HBu7.out).trans (kF.to_below (B := wo.heap.size) (fun b hb => by omega) HBu7.out.size)⟩
      case twoqoo =>
       go_simp
       obtain ⟨u8, hw⟩ : ∃ q : World, q = u2.alloc (.cells #[.int .i64 0, .int .i64 0, .slice none 0 0, .slice none 0 0, .int .i64 0, .int .i64 0, .int .i64 0, .slice none 0 0] 70) := ⟨_, rfl⟩
       rw [← hw]
       have HSu8 : Hid (Blk' u8 u2.heap.size 70 #[.int .i64 0, .int .i64 0, .slice none 0 0, .slice none 0 0, .int .i64 0, .int .i64 0, .int .i64 0, .slice none 0 0]) := Lib.hid (by rw [hw]; exact Blk'.new _ _ _)
       have hb : Below u2.heap.size u2 u8 := by rw [hw]; exact (Below.refl _ _).alloc (Nat.le_refl _) _
       have HBu8 := Lib.hid (bthen HBu2.out hb HBu2.out.size)
       have zu8 : u2.heap.size ≤ u8.heap.size := hb.size
       have HGu8 := Lib.hid (HGu2.out.below hb HGu2.out.lt)
       have HQu8 := Lib.hid (HQu2.out.below hb HQu2.out.lt)
       have HTu8 := Lib.hid (HTu2.out.below hb HTu2.out.lt)
       clear hb HGu2 HQu2 HTu2
       have yu8 : u2.heap.size < u8.heap.size := by rw [hw]; simp
       clear hw
       have G0 : u8.cell? ⟨w.heap.size, 0, none⟩ = some (.int .i64 gt) := HGu8.out.cell 0
       have G1 : u8.cell? ⟨w.heap.size, 1, none⟩ = some (.int .i64 (n : Int)) := HGu8.out.cell 1
       have G2 : u8.cell? ⟨w.heap.size, 2, none⟩ = some (.int .i64 gs) := HGu8.out.cell 2
       have G3 : u8.cell? ⟨w.heap.size, 3, none⟩ = some (.slice (some ⟨br, orr, none⟩) rs.length c) := HGu8.out.cell 3
       have zG := HGu8.out.lt
       refine hK.out _ _ ?hqoot (fun hHeld => ?rqoot)
       case hqoot => ((try dsimp only); go_keep)
       clear hK Kq G0 G1 G2 G3 zG
       try simp only [Act.put, List.setIfInBounds_toArray, List.set_cons_zero, List.set_cons_succ]
       refine take_call (i := 6) rfl (by kernel_rfl) (by rfl) (fun Kq hK => ?_)
       go_simp
       obtain ⟨u9, hw⟩ : ∃ q : World, q = u8.alloc (.cells #[.int .i64 (-1)] 3) := ⟨_, rfl⟩
       rw [← hw]
       have HPu9 : Hid (Blk' u9 u8.heap.size 3 #[.int .i64 (-1)]) := Lib.hid (by rw [hw]; exact Blk'.new _ _ _)
       have hb : Below u8.heap.size u8 u9 := by rw [hw]; exact (Below.refl _ _).alloc (Nat.le_refl _) _
       have HBu9 := Lib.hid (bthen HBu8.out hb HBu8.out.size)
       have zu9 : u8.heap.size ≤ u9.heap.size := hb.size
       have HGu9 := Lib.hid (HGu8.out.below hb HGu8.out.lt)
       have HQu9 := Lib.hid (HQu8.out.below hb HQu8.out.lt)
       have HTu9 := Lib.hid (HTu8.out.below hb HTu8.out.lt)
       have HSu9 := Lib.hid (HSu8.out.below hb HSu8.out.lt)
       clear hb HGu8 HQu8 HTu8 HSu8
       have yu9 : u8.heap.size < u9.heap.size := by rw [hw]; simp
       clear hw
       have G0 : u9.cell? ⟨w.heap.size, 0, none⟩ = some (.int .i64 gt) := HGu9.out.cell 0
       have G1 : u9.cell? ⟨w.heap.size, 1, none⟩ = some (.int .i64 (n : Int)) := HGu9.out.cell 1
       have G2 : u9.cell? ⟨w.heap.size, 2, none⟩ = some (.int .i64 gs) := HGu9.out.cell 2
       have G3 : u9.cell? ⟨w.heap.size, 3, none⟩ = some (.slice (some ⟨br, orr, none⟩) rs.length c) := HGu9.out.cell 3
       have zG := HGu9.out.lt
       refine hK.out _ _ ?hqoota (fun hHeld => ?rqoota)
       case hqoota => ((try dsimp only); go_keep)
       clear hK Kq G0 G1 G2 G3 zG
       try simp only [Act.put, List.setIfInBounds_toArray, List.set_cons_zero, List.set_cons_succ]
       refine take_call (i := 10) rfl (by kernel_rfl) (by rfl) (fun Kq hK => ?_)
       go_simp
       go_at_call 64
       refine (repeat_any (u8.heap.size) 0 rs.length u9 (by omega) hrl (HPu9.out.cell 0)).mono ?_
       rintro e u10 ⟨gL, rfl, hg, hgl, hb0⟩
       have HLu10 := Lib.hid hg
       have yu10 : gL < u10.heap.size := hg.lt
       have hb : Below u9.heap.size u9 u10 := hb0
       have HBu10 := Lib.hid (bthen HBu9.out hb HBu9.out.size)
       have zu10 : u9.heap.size ≤ u10.heap.size := hb.size
       have HGu10 := Lib.hid (HGu9.out.below hb HGu9.out.lt)
       have HQu10 := Lib.hid (HQu9.out.below hb HQu9.out.lt)
       have HTu10 := Lib.hid (HTu9.out.below hb HTu9.out.lt)
       have HSu10 := Lib.hid (HSu9.out.below hb HSu9.out.lt)
       have HPu10 := Lib.hid (HPu9.out.below hb HPu9.out.lt)
       clear hb HGu9 HQu9 HTu9 HSu9 HPu9
       have xu10 : u9.heap.size ≤ gL := hgl
       clear hg hb0 hgl
       have G0 : u10.cell? ⟨w.heap.size, 0, none⟩ = some (.int .i64 gt) := HGu10.out.cell 0
       have G1 : u10.cell? ⟨w.heap.size, 1, none⟩ = some (.int .i64 (n : Int)) := HGu10.out.cell 1
       have G2 : u10.cell? ⟨w.heap.size, 2, none⟩ = some (.int .i64 gs) := HGu10.out.cell 2
       have G3 : u10.cell? ⟨w.heap.size, 3, none⟩ = some (.slice (some ⟨br, orr, none⟩) rs.length c) := HGu10.out.cell 3
       have zG := HGu10.out.lt
       refine hK.out _ _ ?hqootaa (fun hHeld => ?rqootaa)
       case hqootaa => ((try dsimp only); go_keep)
       clear hK Kq G0 G1 G2 G3 zG
       try simp only [Act.put, List.setIfInBounds_toArray, List.set_cons_zero, List.set_cons_succ]
       refine take_run (i := 12) (v := ?vqootaab12) rfl (by kernel_rfl) (by kernel_rfl) (by kernel_rfl) (fun _ _ _ h => h) (by rfl) ?yqootaab12 (by assumption) ?rqootaab12
       case yqootaab12 => (intro w hSw; (try dsimp only at hSw); go_simp; try with_reducible rfl)
       try simp only [Act.put, List.setIfInBounds_toArray, List.set_cons_zero, List.set_cons_succ]
       refine take_call (i := 14) rfl (by kernel_rfl) (by rfl) (fun Kq hK => ?_)
       have G0 : u10.cell? ⟨w.heap.size, 0, none⟩ = some (.int .i64 gt) := HGu10.out.cell 0
       have G1 : u10.cell? ⟨w.heap.size, 1, none⟩ = some (.int .i64 (n : Int)) := HGu10.out.cell 1
       have G2 : u10.cell? ⟨w.heap.size, 2, none⟩ = some (.int .i64 gs) := HGu10.out.cell 2
       have G3 : u10.cell? ⟨w.heap.size, 3, none⟩ = some (.slice (some ⟨br, orr, none⟩) rs.length c) := HGu10.out.cell 3
       have zG := HGu10.out.lt
       have S0 : u10.cell? ⟨u2.heap.size, 0, none⟩ = some (.int .i64 0) := HSu10.out.cell 0
       have fS0 := HSu10.out.frozen 0
       have S1 : u10.cell? ⟨u2.heap.size, 1, none⟩ = some (.int .i64 0) := HSu10.out.cell 1
       have fS1 := HSu10.out.frozen 1
       have S2 : u10.cell? ⟨u2.heap.size, 2, none⟩ = some (.slice none 0 0) := HSu10.out.cell 2
       have fS2 := HSu10.out.frozen 2
       have S3 : u10.cell? ⟨u2.heap.size, 3, none⟩ = some (.slice none 0 0) := HSu10.out.cell 3
       have fS3 := HSu10.out.frozen 3
       have S4 : u10.cell? ⟨u2.heap.size, 4, none⟩ = some (.int .i64 0) := HSu10.out.cell 4
       have fS4 := HSu10.out.frozen 4
       have S5 : u10.cell? ⟨u2.heap.size, 5, none⟩ = some (.int .i64 0) := HSu10.out.cell 5
       have fS5 := HSu10.out.frozen 5
       have S6 : u10.cell? ⟨u2.heap.size, 6, none⟩ = some (.int .i64 0) := HSu10.out.cell 6
       have fS6 := HSu10.out.frozen 6
       have S7 : u10.cell? ⟨u2.heap.size, 7, none⟩ = some (.slice none 0 0) := HSu10.out.cell 7
       have fS7 := HSu10.out.frozen 7
       have zS := HSu10.out.lt
       have nS : ¬ u2.heap.size = w.heap.size := by have := zz0; omega
       have nS2 : ¬ w.heap.size = u2.heap.size := by have := zz0; omega
       go_simp
       refine hK.out _ _ ?hqootaaz (fun hHeld => ?rqootaaz)
       case hqootaaz => ((try dsimp only); go_keep)
       clear hK Kq
       try simp only [Act.put, List.setIfInBounds_toArray, List.set_cons_zero, List.set_cons_succ]
       refine wpAnyH_done (by kernel_rfl) ?_ _
       refine NoPanic.normal ?_
       go_wp2_with fail
       go_meet
       generalize hwF : World.setCell _ _ _ = wF
       obtain ⟨hR, kF⟩ := set8 HSu10.out (.int .i64 (m : Int)) (.int .i64 0) (.slice (some ⟨gT, 0, none⟩) rs.length rs.length) (.slice (some ⟨gL, 0, none⟩) rs.length rs.length) (.int .i64 gt) (.int .i64 (n : Int)) (.int .i64 gs) (.slice (some ⟨br, orr, none⟩) rs.length c)
       rw [hwF] at hR kF
       have zF := kF.size
       exact ⟨gT, gL, u2.heap.size, rfl, hR, HTu10.out.kept kF (by omega), HLu10.out.kept kF (by omega), by omega, by omega, by omega, by omega, by omega, by omega, (HBu10.out).trans (kF.to_below (B := wo.heap.size) (fun b hb => by omega) HBu10.out.size)⟩
     case twoqo =>
      go_simp
      obtain ⟨u11, hw⟩ : ∃ q : World, q = u1.alloc (.cells #[.int .i64 (-1)] 3) := ⟨_, rfl⟩
      rw [← hw]
      have HPu11 : Hid (Blk' u11 u1.heap.size 3 #[.int .i64 (-1)]) := Lib.hid (by rw [hw]; exact Blk'.new _ _ _)
      have hb : Below u1.heap.size u1 u11 := by rw [hw]; exact (Below.refl _ _).alloc (Nat.le_refl _) _
      have HBu11 := Lib.hid (bthen HBu1.out hb HBu1.out.size)
      have zu11 : u1.heap.size ≤ u11.heap.size := hb.size
      have HGu11 := Lib.hid (HGu1.out.below hb HGu1.out.lt)
      have HQu11 := Lib.hid (HQu1.out.below hb HQu1.out.lt)
      clear hb HGu1 HQu1
      have yu11 : u1.heap.size < u11.heap.size := by rw [hw]; simp
      clear hw
      have G0 : u11.cell? ⟨w.heap.size, 0, none⟩ = some (.int .i64 gt) := HGu11.out.cell 0
      have G1 : u11.cell? ⟨w.heap.size, 1, none⟩ = some (.int .i64 (n : Int)) := HGu11.out.cell 1
      have G2 : u11.cell? ⟨w.heap.size, 2, none⟩ = some (.int .i64 gs) := HGu11.out.cell 2
      have G3 : u11.cell? ⟨w.heap.size, 3, none⟩ = some (.slice (some ⟨br, orr, none⟩) rs.length c) := HGu11.out.cell 3
      have zG := HGu11.out.lt
      refine hK.out _ _ ?hqot (fun hHeld => ?rqot)
      case hqot => ((try dsimp only); go_keep)
      clear hK Kq G0 G1 G2 G3 zG
      try simp only [Act.put, List.setIfInBounds_toArray, List.set_cons_zero, List.set_cons_succ]
      refine take_two (i := 5) (j := 13) rfl rfl (by kernel_rfl) (by rfl) (by rfl) (fun Kq hK => ?oneqot) (fun Kq hK => ?twoqot)
      case oneqot =>
       go_simp
       go_at_call 64
       refine (repeat_any (wr.heap.size) 0 rs.length u11 (by omega) hrl (HQu11.out.cell 0)).mono ?_
       rintro e u12 ⟨gT, rfl, hg, hgl, hb0⟩
       have HTu12 := Lib.hid hg
       have yu12 : gT < u12.heap.size := hg.lt
       have hb : Below u11.heap.size u11 u12 := hb0
       have HBu12 := Lib.hid (bthen HBu11.out hb HBu11.out.size)
       have zu12 : u11.heap.size ≤ u12.heap.size := hb.size
       have HGu12 := Lib.hid (HGu11.out.below hb HGu11.out.lt)
       have HQu12 := Lib.hid (HQu11.out.below hb HQu11.out.lt)
       have HPu12 := Lib.hid (HPu11.out.below hb HPu11.out.lt)
       clear hb HGu11 HQu11 HPu11
       have xu12 : u11.heap.size ≤ gT := hgl
       clear hg hb0 hgl
       have G0 : u12.cell? ⟨w.heap.size, 0, none⟩ = some (.int .i64 gt) := HGu12.out.cell 0
       have G1 : u12.cell? ⟨w.heap.size, 1, none⟩ = some (.int .i64 (n : Int)) := HGu12.out.cell 1
       have G2 : u12.cell? ⟨w.heap.size, 2, none⟩ = some (.int .i64 gs) := HGu12.out.cell 2
       have G3 : u12.cell? ⟨w.heap.size, 3, none⟩ = some (.slice (some ⟨br, orr, none⟩) rs.length c) := HGu12.out.cell 3
       have zG := HGu12.out.lt
       refine hK.out _ _ ?hqoto (fun hHeld => ?rqoto)
       case hqoto => ((try dsimp only); go_keep)
       clear hK Kq G0 G1 G2 G3 zG
       try simp only [Act.put, List.setIfInBounds_toArray, List.set_cons_zero, List.set_cons_succ]
       refine take_two (i := 10) (j := 13) rfl rfl (by kernel_rfl) (by rfl) (by rfl) (fun Kq hK => ?oneqoto) (fun Kq hK => ?twoqoto)
       case oneqoto =>
        go_simp
        go_at_call 64
        refine (repeat_any (u1.heap.size) 0 rs.length u12 (by omega) hrl (HPu12.out.cell 0)).mono ?_
        rintro e u13 ⟨gL, rfl, hg, hgl, hb0⟩
        have HLu13 := Lib.hid hg
        have yu13 : gL < u13.heap.size := hg.lt
        have hb : Below u12.heap.size u12 u13 := hb0
        have HBu13 := Lib.hid (bthen HBu12.out hb HBu12.out.size)
        have zu13 : u12.heap.size ≤ u13.heap.size := hb.size
        have HGu13 := Lib.hid (HGu12.out.below hb HGu12.out.lt)
        have HQu13 := Lib.hid (HQu12.out.below hb HQu12.out.lt)
        have HPu13 := Lib.hid (HPu12.out.below hb HPu12.out.lt)
        have HTu13 := Lib.hid (HTu12.out.below hb HTu12.out.lt)
        clear hb HGu12 HQu12 HPu12 HTu12
        have xu13 : u12.heap.size ≤ gL := hgl
        clear hg hb0 hgl
        have G0 : u13.cell? ⟨w.heap.size, 0, none⟩ = some (.int .i64 gt) := HGu13.out.cell 0
        have G1 : u13.cell? ⟨w.heap.size, 1, none⟩ = some (.int .i64 (n : Int)) := HGu13.out.cell 1
        have G2 : u13.cell? ⟨w.heap.size, 2, none⟩ = some (.int .i64 gs) := HGu13.out.cell 2
        have G3 : u13.cell? ⟨w.heap.size, 3, none⟩ = some (.slice (some ⟨br, orr, none⟩) rs.length c) := HGu13.out.cell 3
        have zG := HGu13.out.lt
        refine hK.out _ _ ?hqotoo (fun hHeld => ?rqotoo)
        case hqotoo => ((try dsimp only); go_keep)
        clear hK Kq G0 G1 G2 G3 zG
        try simp only [Act.put, List.setIfInBounds_toArray, List.set_cons_zero, List.set_cons_succ]
        refine take_run (i := 12) (v := ?vqotoob12) rfl (by kernel_rfl) (by kernel_rfl) (by kernel_rfl) (fun _ _ _ h => h) (by rfl) ?yqotoob12 (by assumption) ?rqotoob12
        case yqotoob12 => (intro w hSw; (try dsimp only at hSw); go_simp; try with_reducible rfl)
        try simp only [Act.put, List.setIfInBounds_toArray, List.set_cons_zero, List.set_cons_succ]
        refine take_call (i := 13) rfl (by kernel_rfl) (by rfl) (fun Kq hK => ?_)
        go_simp
        obtain ⟨u14, hw⟩ : ∃ q : World, q = u13.alloc (.cells #[.int .i64 0, .int .i64 0, .slice none 0 0, .slice none 0 0, .int .i64 0, .int .i64 0, .int .i64 0, .slice none 0 0] 70) := ⟨_, rfl⟩
        rw [← hw]
        have HSu14 : Hid (Blk' u14 u13.heap.size 70 #[.int .i64 0, .int .i64 0, .slice none 0 0, .slice none 0 0, .int .i64 0, .int .i64 0, .int .i64 0, .slice none 0 0]) := Lib.hid (by rw [hw]; exact Blk'.new _ _ _)
        have hb : Below u13.heap.size u13 u14 := by rw [hw]; exact (Below.refl _ _).alloc (Nat.le_refl _) _
        have HBu14 := Lib.hid (bthen HBu13.out hb HBu13.out.size)
        have zu14 : u13.heap.size ≤ u14.heap.size := hb.size
        have HGu14 := Lib.hid (HGu13.out.below hb HGu13.out.lt)
        have HQu14 := Lib.hid (HQu13.out.below hb HQu13.out.lt)
        have HPu14 := Lib.hid (HPu13.out.below hb HPu13.out.lt)
        have HTu14 := Lib.hid (HTu13.out.below hb HTu13.out.lt)
        have HLu14 := Lib.hid (HLu13.out.below hb HLu13.out.lt)
        clear hb HGu13 HQu13 HPu13 HTu13 HLu13
        have yu14 : u13.heap.size < u14.heap.size := by rw [hw]; simp
        clear hw
        have G0 : u14.cell? ⟨w.heap.size, 0, none⟩ = some (.int .i64 gt) := HGu14.out.cell 0
        have G1 : u14.cell? ⟨w.heap.size, 1, none⟩ = some (.int .i64 (n : Int)) := HGu14.out.cell 1
        have G2 : u14.cell? ⟨w.heap.size, 2, none⟩ = some (.int .i64 gs) := HGu14.out.cell 2
        have G3 : u14.cell? ⟨w.heap.size, 3, none⟩ = some (.slice (some ⟨br, orr, none⟩) rs.length c) := HGu14.out.cell 3
        have zG := HGu14.out.lt
        refine hK.out _ _ ?hqotooa (fun hHeld => ?rqotooa)
        case hqotooa => ((try dsimp only); go_keep)
        clear hK Kq G0 G1 G2 G3 zG
        try simp only [Act.put, List.setIfInBounds_toArray, List.set_cons_zero, List.set_cons_succ]
        refine take_call (i := 14) rfl (by kernel_rfl) (by rfl) (fun Kq hK => ?_)
        have G0 : u14.cell? ⟨w.heap.size, 0, none⟩ = some (.int .i64 gt) := HGu14.out.cell 0
        have G1 : u14.cell? ⟨w.heap.size, 1, none⟩ = some (.int .i64 (n : Int)) := HGu14.out.cell 1
        have G2 : u14.cell? ⟨w.heap.size, 2, none⟩ = some (.int .i64 gs) := HGu14.out.cell 2
        have G3 : u14.cell? ⟨w.heap.size, 3, none⟩ = some (.slice (some ⟨br, orr, none⟩) rs.length c) := HGu14.out.cell 3
        have zG := HGu14.out.lt
        have S0 : u14.cell? ⟨u13.heap.size, 0, none⟩ = some (.int .i64 0) := HSu14.out.cell 0
        have fS0 := HSu14.out.frozen 0
        have S1 : u14.cell? ⟨u13.heap.size, 1, none⟩ = some (.int .i64 0) := HSu14.out.cell 1
        have fS1 := HSu14.out.frozen 1
        have S2 : u14.cell? ⟨u13.heap.size, 2, none⟩ = some (.slice none 0 0) := HSu14.out.cell 2
        have fS2 := HSu14.out.frozen 2
        have S3 : u14.cell? ⟨u13.heap.size, 3, none⟩ = some (.slice none 0 0) := HSu14.out.cell 3
        have fS3 := HSu14.out.frozen 3
        have S4 : u14.cell? ⟨u13.heap.size, 4, none⟩ = some (.int .i64 0) := HSu14.out.cell 4
        have fS4 := HSu14.out.frozen 4
        have S5 : u14.cell? ⟨u13.heap.size, 5, none⟩ = some (.int .i64 0) := HSu14.out.cell 5
        have fS5 := HSu14.out.frozen 5
        have S6 : u14.cell? ⟨u13.heap.size, 6, none⟩ = some (.int .i64 0) := HSu14.out.cell 6
        have fS6 := HSu14.out.frozen 6
        have S7 : u14.cell? ⟨u13.heap.size, 7, none⟩ = some (.slice none 0 0) := HSu14.out.cell 7
        have fS7 := HSu14.out.frozen 7
        have zS := HSu14.out.lt
        have nS : ¬ u13.heap.size = w.heap.size := by have := zz0; omega
        have nS2 : ¬ w.heap.size = u13.heap.size := by have := zz0; omega
        go_simp
        refine hK.out _ _ ?hqotooaz (fun hHeld => ?rqotooaz)
        case hqotooaz => ((try dsimp only); go_keep)
        clear hK Kq
        try simp only [Act.put, List.setIfInBounds_toArray, List.set_cons_zero, List.set_cons_succ]
        refine wpAnyH_done (by kernel_rfl) ?_ _
        refine NoPanic.normal ?_
        go_wp2_with fail
        go_meet
        generalize hwF : World.setCell _ _ _ = wF
        obtain ⟨hR, kF⟩ := set8 HSu14.out (.int .i64 (m : Int)) (.int .i64 0) (.slice (some ⟨gT, 0, none⟩) rs.length rs.length) (.slice (some ⟨gL, 0, none⟩) rs.length rs.length) (.int .i64 gt) (.int .i64 (n : Int)) (.int .i64 gs) (.slice (some ⟨br, orr, none⟩) rs.length c)
        rw [hwF] at hR kF
        have zF := kF.size
        exact ⟨gT, gL, u13.heap.size, rfl, hR, HTu14.out.kept kF (by omega), HLu14.out.kept kF (by omega), by omega, by omega, by omega, by omega, by omega, by omega, (HBu14.out).trans (kF.to_below (B := wo.heap.size) (fun b hb => by omega) HBu14.out.size)⟩
       case twoqoto =>
        go_simp
        obtain ⟨u15, hw⟩ : ∃ q : World, q = u12.alloc (.cells #[.int .i64 0, .int .i64 0, .slice none 0 0, .slice none 0 0, .int .i64 0, .int .i64 0, .int .i64 0, .slice none 0 0] 70) := ⟨_, rfl⟩
        rw [← hw]
        have HSu15 : Hid (Blk' u15 u12.heap.size 70 #[.int .i64 0, .int .i64 0, .slice none 0 0, .slice none 0 0, .int .i64 0, .int .i64 0, .int .i64 0, .slice none 0 0]) := Lib.hid (by rw [hw]; exact Blk'.new _ _ _)
        have hb : Below u12.heap.size u12 u15 := by rw [hw]; exact (Below.refl _ _).alloc (Nat.le_refl _) _
        have HBu15 := Lib.hid (bthen HBu12.out hb HBu12.out.size)
        have zu15 : u12.heap.size ≤ u15.heap.size := hb.size
        have HGu15 := Lib.hid (HGu12.out.below hb HGu12.out.lt)
        have HQu15 := Lib.hid (HQu12.out.below hb HQu12.out.lt)
        have HPu15 := Lib.hid (HPu12.out.below hb HPu12.out.lt)
        have HTu15 := Lib.hid (HTu12.out.below hb HTu12.out.lt)
        clear hb HGu12 HQu12 HPu12 HTu12
        have yu15 : u12.heap.size < u15.heap.size := by rw [hw]; simp
        clear hw
        have G0 : u15.cell? ⟨w.heap.size, 0, none⟩ = some (.int .i64 gt) := HGu15.out.cell 0
        have G1 : u15.cell? ⟨w.heap.size, 1, none⟩ = some (.int .i64 (n : Int)) := HGu15.out.cell 1
        have G2 : u15.cell? ⟨w.heap.size, 2, none⟩ = some (.int .i64 gs) := HGu15.out.cell 2
        have G3 : u15.cell? ⟨w.heap.size, 3, none⟩ = some (.slice (some ⟨br, orr, none⟩) rs.length c) := HGu15.out.cell 3
        have zG := HGu15.out.lt
        refine hK.out _ _ ?hqotot (fun hHeld => ?rqotot)
        case hqotot => ((try dsimp only); go_keep)
        clear hK Kq G0 G1 G2 G3 zG
        try simp only [Act.put, List.setIfInBounds_toArray, List.set_cons_zero, List.set_cons_succ]
        refine take_call (i := 10) rfl (by kernel_rfl) (by rfl) (fun Kq hK => ?_)
        go_simp
        go_at_call 64
        refine (repeat_any (u1.heap.size) 0 rs.length u15 (by omega) hrl (HPu15.out.cell 0)).mono ?_
        rintro e u16 ⟨gL, rfl, hg, hgl, hb0⟩
        have HLu16 := Lib.hid hg
        have yu16 : gL < u16.heap.size := hg.lt
        have hb : Below u15.heap.size u15 u16 := hb0
        have HBu16 := Lib.hid (bthen HBu15.out hb HBu15.out.size)
        have zu16 : u15.heap.size ≤ u16.heap.size := hb.size
        have HGu16 := Lib.hid (HGu15.out.below hb HGu15.out.lt)
        have HQu16 := Lib.hid (HQu15.out.below hb HQu15.out.lt)
        have HPu16 := Lib.hid (HPu15.out.below hb HPu15.out.lt)
        have HTu16 := Lib.hid (HTu15.out.below hb HTu15.out.lt)
        have HSu16 := Lib.hid (HSu15.out.below hb HSu15.out.lt)
        clear hb HGu15 HQu15 HPu15 HTu15 HSu15
        have xu16 : u15.heap.size ≤ gL := hgl
        clear hg hb0 hgl
        have G0 : u16.cell? ⟨w.heap.size, 0, none⟩ = some (.int .i64 gt) := HGu16.out.cell 0
        have G1 : u16.cell? ⟨w.heap.size, 1, none⟩ = some (.int .i64 (n : Int)) := HGu16.out.cell 1
        have G2 : u16.cell? ⟨w.heap.size, 2, none⟩ = some (.int .i64 gs) := HGu16.out.cell 2
        have G3 : u16.cell? ⟨w.heap.size, 3, none⟩ = some (.slice (some ⟨br, orr, none⟩) rs.length c) := HGu16.out.cell 3
        have zG := HGu16.out.lt
        refine hK.out _ _ ?hqotota (fun hHeld => ?rqotota)
        case hqotota => ((try dsimp only); go_keep)
        clear hK Kq G0 G1 G2 G3 zG
        try simp only [Act.put, List.setIfInBounds_toArray, List.set_cons_zero, List.set_cons_succ]
        refine take_run (i := 12) (v := ?vqototab12) rfl (by kernel_rfl) (by kernel_rfl) (by kernel_rfl) (fun _ _ _ h => h) (by rfl) ?yqototab12 (by assumption) ?rqototab12
        case yqototab12 => (intro w hSw; (try dsimp only at hSw); go_simp; try with_reducible rfl)
        try simp only [Act.put, List.setIfInBounds_toArray, List.set_cons_zero, List.set_cons_succ]
        refine take_call (i := 14) rfl (by kernel_rfl) (by rfl) (fun Kq hK => ?_)
        have G0 : u16.cell? ⟨w.heap.size, 0, none⟩ = some (.int .i64 gt) := HGu16.out.cell 0
        have G1 : u16.cell? ⟨w.heap.size, 1, none⟩ = some (.int .i64 (n : Int)) := HGu16.out.cell 1
        have G2 : u16.cell? ⟨w.heap.size, 2, none⟩ = some (.int .i64 gs) := HGu16.out.cell 2
        have G3 : u16.cell? ⟨w.heap.size, 3, none⟩ = some (.slice (some ⟨br, orr, none⟩) rs.length c) := HGu16.out.cell 3
        have zG := HGu16.out.lt
        have S0 : u16.cell? ⟨u12.heap.size, 0, none⟩ = some (.int .i64 0) := HSu16.out.cell 0
        have fS0 := HSu16.out.frozen 0
        have S1 : u16.cell? ⟨u12.heap.size, 1, none⟩ = some (.int .i64 0) := HSu16.out.cell 1
        have fS1 := HSu16.out.frozen 1
        have S2 : u16.cell? ⟨u12.heap.size, 2, none⟩ = some (.slice none 0 0) := HSu16.out.cell 2
        have fS2 := HSu16.out.frozen 2
        have S3 : u16.cell? ⟨u12.heap.size, 3, none⟩ = some (.slice none 0 0) := HSu16.out.cell 3
        have fS3 := HSu16.out.frozen 3
        have S4 : u16.cell? ⟨u12.heap.size, 4, none⟩ = some (.int .i64 0) := HSu16.out.cell 4
        have fS4 := HSu16.out.frozen 4
        have S5 : u16.cell? ⟨u12.heap.size, 5, none⟩ = some (.int .i64 0) := HSu16.out.cell 5
        have fS5 := HSu16.out.frozen 5
        have S6 : u16.cell? ⟨u12.heap.size, 6, none⟩ = some (.int .i64 0) := HSu16.out.cell 6
        have fS6 := HSu16.out.frozen 6
        have S7 : u16.cell? ⟨u12.heap.size, 7, none⟩ = some (.slice none 0 0) := HSu16.out.cell 7
        have fS7 := HSu16.out.frozen 7
        have zS := HSu16.out.lt
        have nS : ¬ u12.heap.size = w.heap.size := by have := zz0; omega
        have nS2 : ¬ w.heap.size = u12.heap.size := by have := zz0; omega
        go_simp
        refine hK.out _ _ ?hqototaz (fun hHeld => ?rqototaz)
        case hqototaz => ((try dsimp only); go_keep)
        clear hK Kq
        try simp only [Act.put, List.setIfInBounds_toArray, List.set_cons_zero, List.set_cons_succ]
        refine wpAnyH_done (by kernel_rfl) ?_ _
        refine NoPanic.normal ?_
        go_wp2_with fail
        go_meet
        generalize hwF : World.setCell _ _ _ = wF
        obtain ⟨hR, kF⟩ := set8 HSu16.out (.int .i64 (m : Int)) (.int .i64 0) (.slice (some ⟨gT, 0, none⟩) rs.length rs.length) (.slice (some ⟨gL, 0, none⟩) rs.length rs.length) (.int .i64 gt) (.int .i64 (n : Int)) (.int .i64 gs) (.slice (some ⟨br, orr, none⟩) rs.length c)
        rw [hwF] at hR kF
        have zF := kF.size
        exact ⟨gT, gL, u12.heap.size, rfl, hR, HTu16.out.kept kF (by omega), HLu16.out.kept kF (by omega), by omega, by omega, by omega, by omega, by omega, by omega, (HBu16.out).trans (kF.to_below (B := wo.heap.size) (fun b hb => by omega) HBu16.out.size)⟩
      case twoqot =>
       go_simp
       obtain ⟨u17, hw⟩ : ∃ q : World, q = u11.alloc (.cells #[.int .i64 0, .int .i64 0, .slice none 0 0, .slice none 0 0, .int .i64 0, .int .i64 0, .int .i64 0, .slice none 0 0] 70) := ⟨_, rfl⟩
       rw [← hw]
       have HSu17 : Hid (Blk' u17 u11.heap.size 70 #[.int .i64 0, .int .i64 0, .slice none 0 0, .slice none 0 0, .int .i64 0, .int .i64 0, .int .i64 0, .slice none 0 0]) := Lib.hid (by rw [hw]; exact Blk'.new _ _ _)
       have hb : Below u11.heap.size u11 u17 := by rw [hw]; exact (Below.refl _ _).alloc (Nat.le_refl _) _
       have HBu17 := Lib.hid (bthen HBu11.out hb HBu11.out.size)
       have zu17 : u11.heap.size ≤ u17.heap.size := hb.size
       have HGu17 := Lib.hid (HGu11.out.below hb HGu11.out.lt)
       have HQu17 := Lib.hid (HQu11.out.below hb HQu11.out.lt)
       have HPu17 := Lib.hid (HPu11.out.below hb HPu11.out.lt)
       clear hb HGu11 HQu11 HPu11
       have yu17 : u11.heap.size < u17.heap.size := by rw [hw]; simp
       clear hw
       have G0 : u17.cell? ⟨w.heap.size, 0, none⟩ = some (.int .i64 gt) := HGu17.out.cell 0
       have G1 : u17.cell? ⟨w.heap.size, 1, none⟩ = some (.int .i64 (n : Int)) := HGu17.out.cell 1
       have G2 : u17.cell? ⟨w.heap.size, 2, none⟩ = some (.int .i64 gs) := HGu17.out.cell 2
       have G3 : u17.cell? ⟨w.heap.size, 3, none⟩ = some (.slice (some ⟨br, orr, none⟩) rs.length c) := HGu17.out.cell 3
       have zG := HGu17.out.lt
       refine hK.out _ _ ?hqott (fun hHeld => ?rqott)
       case hqott => ((try dsimp only); go_keep)
       clear hK Kq G0 G1 G2 G3 zG
       try simp only [Act.put, List.setIfInBounds_toArray, List.set_cons_zero, List.set_cons_succ]
       refine take_call (i := 5) rfl (by kernel_rfl) (by rfl) (fun Kq hK => ?_)
       go_simp
       go_at_call 64
       refine (repeat_any (wr.heap.size) 0 rs.length u17 (by omega) hrl (HQu17.out.cell 0)).mono ?_
       rintro e u18 ⟨gT, rfl, hg, hgl, hb0⟩
       have HTu18 := Lib.hid hg
       have yu18 : gT < u18.heap.size := hg.lt
       have hb : Below u17.heap.size u17 u18 := hb0
       have HBu18 := Lib.hid (bthen HBu17.out hb HBu17.out.size)
       have zu18 : u17.heap.size ≤ u18.heap.size := hb.size
       have HGu18 := Lib.hid (HGu17.out.below hb HGu17.out.lt)
       have HQu18 := Lib.hid (HQu17.out.below hb HQu17.out.lt)
       have HPu18 := Lib.hid (HPu17.out.below hb HPu17.out.lt)
       have HSu18 := Lib.hid (HSu17.out.below hb HSu17.out.lt)
       clear hb HGu17 HQu17 HPu17 HSu17
       have xu18 : u17.heap.size ≤ gT := hgl
       clear hg hb0 hgl
       have G0 : u18.cell? ⟨w.heap.size, 0, none⟩ = some (.int .i64 gt) := HGu18.out.cell 0
       have G1 : u18.cell? ⟨w.heap.size, 1, none⟩ = some (.int .i64 (n : Int)) := HGu18.out.cell 1
       have G2 : u18.cell? ⟨w.heap.size, 2, none⟩ = some (.int .i64 gs) := HGu18.out.cell 2
       have G3 : u18.cell? ⟨w.heap.size, 3, none⟩ = some (.slice (some ⟨br, orr, none⟩) rs.length c) := HGu18.out.cell 3
       have zG := HGu18.out.lt
       refine hK.out _ _ ?hqotta (fun hHeld => ?rqotta)
       case hqotta => ((try dsimp only); go_keep)
       clear hK Kq G0 G1 G2 G3 zG
       try simp only [Act.put, List.setIfInBounds_toArray, List.set_cons_zero, List.set_cons_succ]
       refine take_call (i := 10) rfl (by kernel_rfl) (by rfl) (fun Kq hK => ?_)
       go_simp
       go_at_call 64
       refine (repeat_any (u1.heap.size) 0 rs.length u18 (by omega) hrl (HPu18.out.cell 0)).mono ?_
       rintro e u19 ⟨gL, rfl, hg, hgl, hb0⟩
       have HLu19 := Lib.hid hg
       have yu19 : gL < u19.heap.size := hg.lt
       have hb : Below u18.heap.size u18 u19 := hb0
       have HBu19 := Lib.hid (bthen HBu18.out hb HBu18.out.size)
       have zu19 : u18.heap.size ≤ u19.heap.size := hb.size
       have HGu19 := Lib.hid (HGu18.out.below hb HGu18.out.lt)
       have HQu19 := Lib.hid (HQu18.out.below hb HQu18.out.lt)
       have HPu19 := Lib.hid (HPu18.out.below hb HPu18.out.lt)
       have HSu19 := Lib.hid (HSu18.out.below hb HSu18.out.lt)
       have HTu19 := Lib.hid (HTu18.out.below hb HTu18.out.lt)
       clear hb HGu18 HQu18 HPu18 HSu18 HTu18
       have xu19 : u18.heap.size ≤ gL := hgl
       clear hg hb0 hgl
       have G0 : u19.cell? ⟨w.heap.size, 0, none⟩ = some (.int .i64 gt) := HGu19.out.cell 0
       have G1 : u19.cell? ⟨w.heap.size, 1, none⟩ = some (.int .i64 (n : Int)) := HGu19.out.cell 1
       have G2 : u19.cell? ⟨w.heap.size, 2, none⟩ = some (.int .i64 gs) := HGu19.out.cell 2
       have G3 : u19.cell? ⟨w.heap.size, 3, none⟩ = some (.slice (some ⟨br, orr, none⟩) rs.length c) := HGu19.out.cell 3
       have zG := HGu19.out.lt
       refine hK.out _ _ ?hqottaa (fun hHeld => ?rqottaa)
       case hqottaa => ((try dsimp only); go_keep)
       clear hK Kq G0 G1 G2 G3 zG
       try simp only [Act.put, List.setIfInBounds_toArray, List.set_cons_zero, List.set_cons_succ]
       refine take_run (i := 12) (v := ?vqottaab12) rfl (by kernel_rfl) (by kernel_rfl) (by kernel_rfl) (fun _ _ _ h => h) (by rfl) ?yqottaab12 (by assumption) ?rqottaab12
       case yqottaab12 => (intro w hSw; (try dsimp only at hSw); go_simp; try with_reducible rfl)
       try simp only [Act.put, List.setIfInBounds_toArray, List.set_cons_zero, List.set_cons_succ]
       refine take_call (i := 14) rfl (by kernel_rfl) (by rfl) (fun Kq hK => ?_)
       have G0 : u19.cell? ⟨w.heap.size, 0, none⟩ = some (.int .i64 gt) := HGu19.out.cell 0
       have G1 : u19.cell? ⟨w.heap.size, 1, none⟩ = some (.int .i64 (n : Int)) := HGu19.out.cell 1
       have G2 : u19.cell? ⟨w.heap.size, 2, none⟩ = some (.int .i64 gs) := HGu19.out.cell 2
       have G3 : u19.cell? ⟨w.heap.size, 3, none⟩ = some (.slice (some ⟨br, orr, none⟩) rs.length c) := HGu19.out.cell 3
       have zG := HGu19.out.lt
       have S0 : u19.cell? ⟨u11.heap.size, 0, none⟩ = some (.int .i64 0) := HSu19.out.cell 0
       have fS0 := HSu19.out.frozen 0
       have S1 : u19.cell? ⟨u11.heap.size, 1, none⟩ = some (.int .i64 0) := HSu19.out.cell 1
       have fS1 := HSu19.out.frozen 1
       have S2 : u19.cell? ⟨u11.heap.size, 2, none⟩ = some (.slice none 0 0) := HSu19.out.cell 2
       have fS2 := HSu19.out.frozen 2
       have S3 : u19.cell? ⟨u11.heap.size, 3, none⟩ = some (.slice none 0 0) := HSu19.out.cell 3
       have fS3 := HSu19.out.frozen 3
       have S4 : u19.cell? ⟨u11.heap.size, 4, none⟩ = some (.int .i64 0) := HSu19.out.cell 4
       have fS4 := HSu19.out.frozen 4
       have S5 : u19.cell? ⟨u11.heap.size, 5, none⟩ = some (.int .i64 0) := HSu19.out.cell 5
       have fS5 := HSu19.out.frozen 5
       have S6 : u19.cell? ⟨u11.heap.size, 6, none⟩ = some (.int .i64 0) := HSu19.out.cell 6
       have fS6 := HSu19.out.frozen 6
       have S7 : u19.cell? ⟨u11.heap.size, 7, none⟩ = some (.slice none 0 0) := HSu19.out.cell 7
       have fS7 := HSu19.out.frozen 7
       have zS := HSu19.out.lt
       have nS : ¬ u11.heap.size = w.heap.size := by have := zz0; omega
       have nS2 : ¬ w.heap.size = u11.heap.size := by have := zz0; omega
       go_simp
       refine hK.out _ _ ?hqottaaz (fun hHeld => ?rqottaaz)
       case hqottaaz => ((try dsimp only); go_keep)
       clear hK Kq
       try simp only [Act.put, List.setIfInBounds_toArray, List.set_cons_zero, List.set_cons_succ]
       refine wpAnyH_done (by kernel_rfl) ?_ _
       refine NoPanic.normal ?_
       go_wp2_with fail
       go_meet
       generalize hwF : World.setCell _ _ _ = wF
       obtain ⟨hR, kF⟩ := set8 HSu19.out (.int .i64 (m : Int)) (.int .i64 0) (.slice (some ⟨gT, 0, none⟩) rs.length rs.length) (.slice (some ⟨gL, 0, none⟩) rs.length rs.length) (.int .i64 gt) (.int .i64 (n : Int)) (.int .i64 gs) (.slice (some ⟨br, orr, none⟩) rs.length c)
       rw [hwF] at hR kF
       have zF := kF.size
       exact ⟨gT, gL, u11.heap.size, rfl, hR, HTu19.out.kept kF (by omega), HLu19.out.kept kF (by omega), by omega, by omega, by omega, by omega, by omega, by omega, (HBu19.out).trans (kF.to_below (B := wo.heap.size) (fun b hb => by omega) HBu19.out.size)⟩
     case thrqo =>
      go_simp
      obtain ⟨u20, hw⟩ : ∃ q : World, q = u1.alloc (.cells #[.int .i64 0, .int .i64 0, .slice none 0 0, .slice none 0 0, .int .i64 0, .int .i64 0, .int .i64 0, .slice none 0 0] 70) := ⟨_, rfl⟩
      rw [← hw]
      have HSu20 : Hid (Blk' u20 u1.heap.size 70 #[.int .i64 0, .int .i64 0, .slice none 0 0, .slice none 0 0, .int .i64 0, .int .i64 0, .int .i64 0, .slice none 0 0]) := Lib.hid (by rw [hw]; exact Blk'.new _ _ _)
      have hb : Below u1.heap.size u1 u20 := by rw [hw]; exact (Below.refl _ _).alloc (Nat.le_refl _) _
      have HBu20 := Lib.hid (bthen HBu1.out hb HBu1.out.size)
      have zu20 : u1.heap.size ≤ u20.heap.size := hb.size
      have HGu20 := Lib.hid (HGu1.out.below hb HGu1.out.lt)
      have HQu20 := Lib.hid (HQu1.out.below hb HQu1.out.lt)
      clear hb HGu1 HQu1
      have yu20 : u1.heap.size < u20.heap.size := by rw [hw]; simp
      clear hw
      have G0 : u20.cell? ⟨w.heap.size, 0, none⟩ = some (.int .i64 gt) := HGu20.out.cell 0
      have G1 : u20.cell? ⟨w.heap.size, 1, none⟩ = some (.int .i64 (n : Int)) := HGu20.out.cell 1
      have G2 : u20.cell? ⟨w.heap.size, 2, none⟩ = some (.int .i64 gs) := HGu20.out.cell 2
      have G3 : u20.cell? ⟨w.heap.size, 3, none⟩ = some (.slice (some ⟨br, orr, none⟩) rs.length c) := HGu20.out.cell 3
      have zG := HGu20.out.lt
      refine hK.out _ _ ?hqoh (fun hHeld => ?rqoh)
      case hqoh => ((try dsimp only); go_keep)
      clear hK Kq G0 G1 G2 G3 zG
      try simp only [Act.put, List.setIfInBounds_toArray, List.set_cons_zero, List.set_cons_succ]
      refine take_two (i := 5) (j := 6) rfl rfl (by kernel_rfl) (by rfl) (by rfl) (fun Kq hK => ?oneqoh) (fun Kq hK => ?twoqoh)
      case oneqoh =>
       go_simp
       go_at_call 64
       refine (repeat_any (wr.heap.size) 0 rs.length u20 (by omega) hrl (HQu20.out.cell 0)).mono ?_
       rintro e u21 ⟨gT, rfl, hg, hgl, hb0⟩
       have HTu21 := Lib.hid hg
       have yu21 : gT < u21.heap.size := hg.lt
       have hb : Below u20.heap.size u20 u21 := hb0
       have HBu21 := Lib.hid (bthen HBu20.out hb HBu20.out.size)
       have zu21 : u20.heap.size ≤ u21.heap.size := hb.size
       have HGu21 := Lib.hid (HGu20.out.below hb HGu20.out.lt)
       have HQu21 := Lib.hid (HQu20.out.below hb HQu20.out.lt)
       have HSu21 := Lib.hid (HSu20.out.below hb HSu20.out.lt)
       clear hb HGu20 HQu20 HSu20
       have xu21 : u20.heap.size ≤ gT := hgl
       clear hg hb0 hgl
       have G0 : u21.cell? ⟨w.heap.size, 0, none⟩ = some (.int .i64 gt) := HGu21.out.cell 0
       have G1 : u21.cell? ⟨w.heap.size, 1, none⟩ = some (.int .i64 (n : Int)) := HGu21.out.cell 1
       have G2 : u21.cell? ⟨w.heap.size, 2, none⟩ = some (.int .i64 gs) := HGu21.out.cell 2
       have G3 : u21.cell? ⟨w.heap.size, 3, none⟩ = some (.slice (some ⟨br, orr, none⟩) rs.length c) := HGu21.out.cell 3
       have zG := HGu21.out.lt
       refine hK.out _ _ ?hqoho (fun hHeld => ?rqoho)
       case hqoho => ((try dsimp only); go_keep)
       clear hK Kq G0 G1 G2 G3 zG
       try simp only [Act.put, List.setIfInBounds_toArray, List.set_cons_zero, List.set_cons_succ]
       refine take_call (i := 6) rfl (by kernel_rfl) (by rfl) (fun Kq hK => ?_)
       go_simp
       obtain ⟨u22, hw⟩ : ∃ q : World, q = u21.alloc (.cells #[.int .i64 (-1)] 3) := ⟨_, rfl⟩
       rw [← hw]
       have HPu22 : Hid (Blk' u22 u21.heap.size 3 #[.int .i64 (-1)]) := Lib.hid (by rw [hw]; exact Blk'.new _ _ _)
       have hb : Below u21.heap.size u21 u22 := by rw [hw]; exact (Below.refl _ _).alloc (Nat.le_refl _) _
       have HBu22 := Lib.hid (bthen HBu21.out hb HBu21.out.size)
       have zu22 : u21.heap.size ≤ u22.heap.size := hb.size
       have HGu22 := Lib.hid (HGu21.out.below hb HGu21.out.lt)
       have HQu22 := Lib.hid (HQu21.out.below hb HQu21.out.lt)
       have HSu22 := Lib.hid (HSu21.out.below hb HSu21.out.lt)
       have HTu22 := Lib.hid (HTu21.out.below hb HTu21.out.lt)
       clear hb HGu21 HQu21 HSu21 HTu21
       have yu22 : u21.heap.size < u22.heap.size := by rw [hw]; simp
       clear hw
       have G0 : u22.cell? ⟨w.heap.size, 0, none⟩ = some (.int .i64 gt) := HGu22.out.cell 0
       have G1 : u22.cell? ⟨w.heap.size, 1, none⟩ = some (.int .i64 (n : Int)) := HGu22.out.cell 1
       have G2 : u22.cell? ⟨w.heap.size, 2, none⟩ = some (.int .i64 gs) := HGu22.out.cell 2
       have G3 : u22.cell? ⟨w.heap.size, 3, none⟩ = some (.slice (some ⟨br, orr, none⟩) rs.length c) := HGu22.out.cell 3
       have zG := HGu22.out.lt
       refine hK.out _ _ ?hqohoa (fun hHeld => ?rqohoa)
       case hqohoa => ((try dsimp only); go_keep)
       clear hK Kq G0 G1 G2 G3 zG
       try simp only [Act.put, List.setIfInBounds_toArray, List.set_cons_zero, List.set_cons_succ]
       refine take_call (i := 10) rfl (by kernel_rfl) (by rfl) (fun Kq hK => ?_)
       go_simp
       go_at_call 64
       refine (repeat_any (u21.heap.size) 0 rs.length u22 (by omega) hrl (HPu22.out.cell 0)).mono ?_
       rintro e u23 ⟨gL, rfl, hg, hgl, hb0⟩
       have HLu23 := Lib.hid hg
       have yu23 : gL < u23.heap.size := hg.lt
       have hb : Below u22.heap.size u22 u23 := hb0
       have HBu23 := Lib.hid (bthen HBu22.out hb HBu22.out.size)
       have zu23 : u22.heap.size ≤ u23.heap.size := hb.size
       have HGu23 := Lib.hid (HGu22.out.below hb HGu22.out.lt)
       have HQu23 := Lib.hid (HQu22.out.below hb HQu22.out.lt)
       have HSu23 := Lib.hid (HSu22.out.below hb HSu22.out.lt)
       have HTu23 := Lib.hid (HTu22.out.below hb HTu22.out.lt)
       have HPu23 := Lib.hid (HPu22.out.below hb HPu22.out.lt)
       clear hb HGu22 HQu22 HSu22 HTu22 HPu22
       have xu23 : u22.heap.size ≤ gL := hgl
       clear hg hb0 hgl
       have G0 : u23.cell? ⟨w.heap.size, 0, none⟩ = some (.int .i64 gt) := HGu23.out.cell 0
       have G1 : u23.cell? ⟨w.heap.size, 1, none⟩ = some (.int .i64 (n : Int)) := HGu23.out.cell 1
       have G2 : u23.cell? ⟨w.heap.size, 2, none⟩ = some (.int .i64 gs) := HGu23.out.cell 2
       have G3 : u23.cell? ⟨w.heap.size, 3, none⟩ = some (.slice (some ⟨br, orr, none⟩) rs.length c) := HGu23.out.cell 3
       have zG := HGu23.out.lt
       refine hK.out _ _ ?hqohoaa (fun hHeld => ?rqohoaa)
       case hqohoaa => ((try dsimp only); go_keep)
       clear hK Kq G0 G1 G2 G3 zG
       try simp only [Act.put, List.setIfInBounds_toArray, List.set_cons_zero, List.set_cons_succ]
       refine take_run (i := 12) (v := ?vqohoaab12) rfl (by kernel_rfl) (by kernel_rfl) (by kernel_rfl) (fun _ _ _ h => h) (by rfl) ?yqohoaab12 (by assumption) ?rqohoaab12
       case yqohoaab12 => (intro w hSw; (try dsimp only at hSw); go_simp; try with_reducible rfl)
       try simp only [Act.put, List.setIfInBounds_toArray, List.set_cons_zero, List.set_cons_succ]
       refine take_call (i := 14) rfl (by kernel_rfl) (by rfl) (fun Kq hK => ?_)
       have G0 : u23.cell? ⟨w.heap.size, 0, none⟩ = some (.int .i64 gt) := HGu23.out.cell 0
       have G1 : u23.cell? ⟨w.heap.size, 1, none⟩ = some (.int .i64 (n : Int)) := HGu23.out.cell 1
       have G2 : u23.cell? ⟨w.heap.size, 2, none⟩ = some (.int .i64 gs) := HGu23.out.cell 2
       have G3 : u23.cell? ⟨w.heap.size, 3, none⟩ = some (.slice (some ⟨br, orr, none⟩) rs.length c) := HGu23.out.cell 3
       have zG := HGu23.out.lt
       have S0 : u23.cell? ⟨u1.heap.size, 0, none⟩ = some (.int .i64 0) := HSu23.out.cell 0
       have fS0 := HSu23.out.frozen 0
       have S1 : u23.cell? ⟨u1.heap.size, 1, none⟩ = some (.int .i64 0) := HSu23.out.cell 1
       have fS1 := HSu23.out.frozen 1
       have S2 : u23.cell? ⟨u1.heap.size, 2, none⟩ = some (.slice none 0 0) := HSu23.out.cell 2
       have fS2 := HSu23.out.frozen 2
       have S3 : u23.cell? ⟨u1.heap.size, 3, none⟩ = some (.slice none 0 0) := HSu23.out.cell 3
       have fS3 := HSu23.out.frozen 3
       have S4 : u23.cell? ⟨u1.heap.size, 4, none⟩ = some (.int .i64 0) := HSu23.out.cell 4
       have fS4 := HSu23.out.frozen 4
       have S5 : u23.cell? ⟨u1.heap.size, 5, none⟩ = some (.int .i64 0) := HSu23.out.cell 5
       have fS5 := HSu23.out.frozen 5
       have S6 : u23.cell? ⟨u1.heap.size, 6, none⟩ = some (.int .i64 0) := HSu23.out.cell 6
       have fS6 := HSu23.out.frozen 6
       have S7 : u23.cell? ⟨u1.heap.size, 7, none⟩ = some (.slice none 0 0) := HSu23.out.cell 7
       have fS7 := HSu23.out.frozen 7
       have zS := HSu23.out.lt
       have nS : ¬ u1.heap.size = w.heap.size := by have := zz0; omega
       have nS2 : ¬ w.heap.size = u1.heap.size := by have := zz0; omega
       go_simp
       refine hK.out _ _ ?hqohoaaz (fun hHeld => ?rqohoaaz)
       case hqohoaaz => ((try dsimp only); go_keep)
       clear hK Kq
       try simp only [Act.put, List.setIfInBounds_toArray, List.set_cons_zero, List.set_cons_succ]
       refine wpAnyH_done (by kernel_rfl) ?_ _
       refine NoPanic.normal ?_
       go_wp2_with fail
       go_meet
       generalize hwF : World.setCell _ _ _ = wF
       obtain ⟨hR, kF⟩ := set8 HSu23.out (.int .i64 (m : Int)) (.int .i64 0) (.slice (some ⟨gT, 0, none⟩) rs.length rs.length) (.slice (some ⟨gL, 0, none⟩) rs.length rs.length) (.int .i64 gt) (.int .i64 (n : Int)) (.int .i64 gs) (.slice (some ⟨br, orr, none⟩) rs.length c)
       rw [hwF] at hR kF
       have zF := kF.size
       exact ⟨gT, gL, u1.heap.size, rfl, hR, HTu23.out.kept kF (by omega), HLu23.out.kept kF (by omega), by omega, by omega, by omega, by omega, by omega, by omega, (HBu23.out).trans (kF.to_below (B := wo.heap.size) (fun b hb => by omega) HBu23.out.size)⟩
      case twoqoh =>
       go_simp
       obtain ⟨u24, hw⟩ : ∃ q : World, q = u20.alloc (.cells #[.int .i64 (-1)] 3) := ⟨_, rfl⟩
       rw [← hw]
       have HPu24 : Hid (Blk' u24 u20.heap.size 3 #[.int .i64 (-1)]) := Lib.hid (by rw [hw]; exact Blk'.new _ _ _)
       have hb : Below u20.heap.size u20 u24 := by rw [hw]; exact (Below.refl _ _).alloc (Nat.le_refl _) _
       have HBu24 := Lib.hid (bthen HBu20.out hb HBu20.out.size)
       have zu24 : u20.heap.size ≤ u24.heap.size := hb.size
       have HGu24 := Lib.hid (HGu20.out.below hb HGu20.out.lt)
       have HQu24 := Lib.hid (HQu20.out.below hb HQu20.out.lt)
       have HSu24 := Lib.hid (HSu20.out.below hb HSu20.out.lt)
       clear hb HGu20 HQu20 HSu20
       have yu24 : u20.heap.size < u24.heap.size := by rw [hw]; simp
       clear hw
       have G0 : u24.cell? ⟨w.heap.size, 0, none⟩ = some (.int .i64 gt) := HGu24.out.cell 0
       have G1 : u24.cell? ⟨w.heap.size, 1, none⟩ = some (.int .i64 (n : Int)) := HGu24.out.cell 1
       have G2 : u24.cell? ⟨w.heap.size, 2, none⟩ = some (.int .i64 gs) := HGu24.out.cell 2
       have G3 : u24.cell? ⟨w.heap.size, 3, none⟩ = some (.slice (some ⟨br, orr, none⟩) rs.length c) := HGu24.out.cell 3
       have zG := HGu24.out.lt
       refine hK.out _ _ ?hqoht (fun hHeld => ?rqoht)
       case hqoht => ((try dsimp only); go_keep)
       clear hK Kq G0 G1 G2 G3 zG
       try simp only [Act.put, List.setIfInBounds_toArray, List.set_cons_zero, List.set_cons_succ]
       refine take_call (i := 5) rfl (by kernel_rfl) (by rfl) (fun Kq hK => ?_)
       go_simp
       go_at_call 64
       refine (repeat_any (wr.heap.size) 0 rs.length u24 (by omega) hrl (HQu24.out.cell 0)).mono ?_
       rintro e u25 ⟨gT, rfl, hg, hgl, hb0⟩
       have HTu25 := Lib.hid hg
       have yu25 : gT < u25.heap.size := hg.lt
       have hb : Below u24.heap.size u24 u25 := hb0
       have HBu25 := Lib.hid (bthen HBu24.out hb HBu24.out.size)
       have zu25 : u24.heap.size ≤ u25.heap.size := hb.size
       have HGu25 := Lib.hid (HGu24.out.below hb HGu24.out.lt)
       have HQu25 := Lib.hid (HQu24.out.below hb HQu24.out.lt)
       have HSu25 := Lib.hid (HSu24.out.below hb HSu24.out.lt)
       have HPu25 := Lib.hid (HPu24.out.below hb HPu24.out.lt)
       clear hb HGu24 HQu24 HSu24 HPu24
       have xu25 : u24.heap.size ≤ gT := hgl
       clear hg hb0 hgl
       have G0 : u25.cell? ⟨w.heap.size, 0, none⟩ = some (.int .i64 gt) := HGu25.out.cell 0
       have G1 : u25.cell? ⟨w.heap.size, 1, none⟩ = some (.int .i64 (n : Int)) := HGu25.out.cell 1
       have G2 : u25.cell? ⟨w.heap.size, 2, none⟩ = some (.int .i64 gs) := HGu25.out.cell 2
       have G3 : u25.cell? ⟨w.heap.size, 3, none⟩ = some (.slice (some ⟨br, orr, none⟩) rs.length c) := HGu25.out.cell 3
       have zG := HGu25.out.lt
       refine hK.out _ _ ?hqohta (fun hHeld => ?rqohta)
       case hqohta => ((try dsimp only); go_keep)
       clear hK Kq G0 G1 G2 G3 zG
       try simp only [Act.put, List.setIfInBounds_toArray, List.set_cons_zero, List.set_cons_succ]
       refine take_call (i := 10) rfl (by kernel_rfl) (by rfl) (fun Kq hK => ?_)
       go_simp
       go_at_call 64
       refine (repeat_any (u20.heap.size) 0 rs.length u25 (by omega) hrl (HPu25.out.cell 0)).mono ?_
       rintro e u26 ⟨gL, rfl, hg, hgl, hb0⟩
       have HLu26 := Lib.hid hg
       have yu26 : gL < u26.heap.size := hg.lt
       have hb : Below u25.heap.size u25 u26 := hb0
       have HBu26 := Lib.hid (bthen HBu25.out hb HBu25.out.size)
       have zu26 : u25.heap.size ≤ u26.heap.size := hb.size
       have HGu26 := Lib.hid (HGu25.out.below hb HGu25.out.lt)
       have HQu26 := Lib.hid (HQu25.out.below hb HQu25.out.lt)
       have HSu26 := Lib.hid (HSu25.out.below hb HSu25.out.lt)
       have HPu26 := Lib.hid (HPu25.out.below hb HPu25.out.lt)
       have HTu26 := Lib.hid (HTu25.out.below hb HTu25.out.lt)
       clear hb HGu25 HQu25 HSu25 HPu25 HTu25
       have xu26 : u25.heap.size ≤ gL := hgl
       clear hg hb0 hgl
       have G0 : u26.cell? ⟨w.heap.size, 0, none⟩ = some (.int .i64 gt) := HGu26.out.cell 0
       have G1 : u26.cell? ⟨w.heap.size, 1, none⟩ = some (.int .i64 (n : Int)) := HGu26.out.cell 1
       have G2 : u26.cell? ⟨w.heap.size, 2, none⟩ = some (.int .i64 gs) := HGu26.out.cell 2
       have G3 : u26.cell? ⟨w.heap.size, 3, none⟩ = some (.slice (some ⟨br, orr, none⟩) rs.length c) := HGu26.out.cell 3
       have zG := HGu26.out.lt
       refine hK.out _ _ ?hqohtaa (fun hHeld => ?rqohtaa)
       case hqohtaa => ((try dsimp only); go_keep)
       clear hK Kq G0 G1 G2 G3 zG
       try simp only [Act.put, List.setIfInBounds_toArray, List.set_cons_zero, List.set_cons_succ]
       refine take_run (i := 12) (v := ?vqohtaab12) rfl (by kernel_rfl) (by kernel_rfl) (by kernel_rfl) (fun _ _ _ h => h) (by rfl) ?yqohtaab12 (by assumption) ?rqohtaab12
       case yqohtaab12 => (intro w hSw; (try dsimp only at hSw); go_simp; try with_reducible rfl)
       try simp only [Act.put, List.setIfInBounds_toArray, List.set_cons_zero, List.set_cons_succ]
       refine take_call (i := 14) rfl (by kernel_rfl) (by rfl) (fun Kq hK => ?_)
       have G0 : u26.cell? ⟨w.heap.size, 0, none⟩ = some (.int .i64 gt) := HGu26.out.cell 0
       have G1 : u26.cell? ⟨w.heap.size, 1, none⟩ = some (.int .i64 (n : Int)) := HGu26.out.cell 1
       have G2 : u26.cell? ⟨w.heap.size, 2, none⟩ = some (.int .i64 gs) := HGu26.out.cell 2
       have G3 : u26.cell? ⟨w.heap.size, 3, none⟩ = some (.slice (some ⟨br, orr, none⟩) rs.length c) := HGu26.out.cell 3
       have zG := HGu26.out.lt
       have S0 : u26.cell? ⟨u1.heap.size, 0, none⟩ = some (.int .i64 0) := HSu26.out.cell 0
       have fS0 := HSu26.out.frozen 0
       have S1 : u26.cell? ⟨u1.heap.size, 1, none⟩ = some (.int .i64 0) := HSu26.out.cell 1
       have fS1 := HSu26.out.frozen 1
       have S2 : u26.cell? ⟨u1.heap.size, 2, none⟩ = some (.slice none 0 0) := HSu26.out.cell 2
       have fS2 := HSu26.out.frozen 2
       have S3 : u26.cell? ⟨u1.heap.size, 3, none⟩ = some (.slice none 0 0) := HSu26.out.cell 3
       have fS3 := HSu26.out.frozen 3
       have S4 : u26.cell? ⟨u1.heap.size, 4, none⟩ = some (.int .i64 0) := HSu26.out.cell 4
       have fS4 := HSu26.out.frozen 4
       have S5 : u26.cell? ⟨u1.heap.size, 5, none⟩ = some (.int .i64 0) := HSu26.out.cell 5
       have fS5 := HSu26.out.frozen 5
       have S6 : u26.cell? ⟨u1.heap.size, 6, none⟩ = some (.int .i64 0) := HSu26.out.cell 6
       have fS6 := HSu26.out.frozen 6
       have S7 : u26.cell? ⟨u1.heap.size, 7, none⟩ = some (.slice none 0 0) := HSu26.out.cell 7
       have fS7 := HSu26.out.frozen 7
       have zS := HSu26.out.lt
       have nS : ¬ u1.heap.size = w.heap.size := by have := zz0; omega
       have nS2 : ¬ w.heap.size = u1.heap.size := by have := zz0; omega
       go_simp
       refine hK.out _ _ ?hqohtaaz (fun hHeld => ?rqohtaaz)
       case hqohtaaz => ((try dsimp only); go_keep)
       clear hK Kq
       try simp only [Act.put, List.setIfInBounds_toArray, List.set_cons_zero, List.set_cons_succ]
       refine wpAnyH_done (by kernel_rfl) ?_ _
       refine NoPanic.normal ?_
       go_wp2_with fail
       go_meet
       generalize hwF : World.setCell _ _ _ = wF
       obtain ⟨hR, kF⟩ := set8 HSu26.out (.int .i64 (m : Int)) (.int .i64 0) (.slice (some ⟨gT, 0, none⟩) rs.length rs.length) (.slice (some ⟨gL, 0, none⟩) rs.length rs.length) (.int .i64 gt) (.int .i64 (n : Int)) (.int .i64 gs) (.slice (some ⟨br, orr, none⟩) rs.length c)
       rw [hwF] at hR kF
       have zF := kF.size
       exact ⟨gT, gL, u1.heap.size, rfl, hR, HTu26.out.kept kF (by omega), HLu26.out.kept kF (by omega), by omega, by omega, by omega, by omega, by omega, by omega, (HBu26.out).trans (kF.to_below (B := wo.heap.size) (fun b hb => by omega) HBu26.out.size)⟩
    case twoq =>
     go_simp
     obtain ⟨u27, hw⟩ : ∃ q : World, q = wr.alloc (.cells #[.int .i64 (-1)] 3) := ⟨_, rfl⟩
     rw [← hw]
     have HPu27 : Hid (Blk' u27 wr.heap.size 3 #[.int .i64 (-1)]) := Lib.hid (by rw [hw]; exact Blk'.new _ _ _)
     have hb : Below wr.heap.size wr u27 := by rw [hw]; exact (Below.refl _ _).alloc (Nat.le_refl _) _
     have HBu27 := Lib.hid (bthen HBwr.out hb HBwr.out.size)
     have zu27 : wr.heap.size ≤ u27.heap.size := hb.size
     have HGu27 := Lib.hid (HGwr.out.below hb HGwr.out.lt)
     clear hb HGwr
     have yu27 : wr.heap.size < u27.heap.size := by rw [hw]; simp
     clear hw
     have G0 : u27.cell? ⟨w.heap.size, 0, none⟩ = some (.int .i64 gt) := HGu27.out.cell 0
     have G1 : u27.cell? ⟨w.heap.size, 1, none⟩ = some (.int .i64 (n : Int)) := HGu27.out.cell 1
     have G2 : u27.cell? ⟨w.heap.size, 2, none⟩ = some (.int .i64 gs) := HGu27.out.cell 2
     have G3 : u27.cell? ⟨w.heap.size, 3, none⟩ = some (.slice (some ⟨br, orr, none⟩) rs.length c) := HGu27.out.cell 3
     have zG := HGu27.out.lt
     refine hK.out _ _ ?hqt (fun hHeld => ?rqt)
     case hqt => ((try dsimp only); go_keep)
     clear hK Kq G0 G1 G2 G3 zG
     try simp only [Act.put, List.setIfInBounds_toArray, List.set_cons_zero, List.set_cons_succ]
     refine take_two (i := 1) (j := 13) rfl rfl (by kernel_rfl) (by rfl) (by rfl) (fun Kq hK => ?oneqt) (fun Kq hK => ?twoqt)
     case oneqt =>
      go_simp
      obtain ⟨u28, hw⟩ : ∃ q : World, q = u27.alloc (.cells #[.int .i64 (-1)] 3) := ⟨_, rfl⟩
      rw [← hw]
      have HQu28 : Hid (Blk' u28 u27.heap.size 3 #[.int .i64 (-1)]) := Lib.hid (by rw [hw]; exact Blk'.new _ _ _)
      have hb : Below u27.heap.size u27 u28 := by rw [hw]; exact (Below.refl _ _).alloc (Nat.le_refl _) _
      have HBu28 := Lib.hid (bthen HBu27.out hb HBu27.out.size)
      have zu28 : u27.heap.size ≤ u28.heap.size := hb.size
      have HGu28 := Lib.hid (HGu27.out.below hb HGu27.out.lt)
      have HPu28 := Lib.hid (HPu27.out.below hb HPu27.out.lt)
      clear hb HGu27 HPu27
      have yu28 : u27.heap.size < u28.heap.size := by rw [hw]; simp
      clear hw
      have G0 : u28.cell? ⟨w.heap.size, 0, none⟩ = some (.int .i64 gt) := HGu28.out.cell 0
      have G1 : u28.cell? ⟨w.heap.size, 1, none⟩ = some (.int .i64 (n : Int)) := HGu28.out.cell 1
      have G2 : u28.cell? ⟨w.heap.size, 2, none⟩ = some (.int .i64 gs) := HGu28.out.cell 2
      have G3 : u28.cell? ⟨w.heap.size, 3, none⟩ = some (.slice (some ⟨br, orr, none⟩) rs.length c) := HGu28.out.cell 3
      have zG := HGu28.out.lt
      refine hK.out _ _ ?hqto (fun hHeld => ?rqto)
      case hqto => ((try dsimp only); go_keep)
      clear hK Kq G0 G1 G2 G3 zG
      try simp only [Act.put, List.setIfInBounds_toArray, List.set_cons_zero, List.set_cons_succ]
      refine take_two (i := 5) (j := 13) rfl rfl (by kernel_rfl) (by rfl) (by rfl) (fun Kq hK => ?oneqto) (fun Kq hK => ?twoqto)
      case oneqto =>
       go_simp
       go_at_call 64
       refine (repeat_any (u27.heap.size) 0 rs.length u28 (by omega) hrl (HQu28.out.cell 0)).mono ?_
       rintro e u29 ⟨gT, rfl, hg, hgl, hb0⟩
       have HTu29 := Lib.hid hg
       have yu29 : gT < u29.heap.size := hg.lt
       have hb : Below u28.heap.size u28 u29 := hb0
       have HBu29 := Lib.hid (bthen HBu28.out hb HBu28.out.size)
       have zu29 : u28.heap.size ≤ u29.heap.size := hb.size
       have HGu29 := Lib.hid (HGu28.out.below hb HGu28.out.lt)
       have HPu29 := Lib.hid (HPu28.out.below hb HPu28.out.lt)
       have HQu29 := Lib.hid (HQu28.out.below hb HQu28.out.lt)
       clear hb HGu28 HPu28 HQu28
       have xu29 : u28.heap.size ≤ gT := hgl
       clear hg hb0 hgl
       have G0 : u29.cell? ⟨w.heap.size, 0, none⟩ = some (.int .i64 gt) := HGu29.out.cell 0
       have G1 : u29.cell? ⟨w.heap.size, 1, none⟩ = some (.int .i64 (n : Int)) := HGu29.out.cell 1
       have G2 : u29.cell? ⟨w.heap.size, 2, none⟩ = some (.int .i64 gs) := HGu29.out.cell 2
       have G3 : u29.cell? ⟨w.heap.size, 3, none⟩ = some (.slice (some ⟨br, orr, none⟩) rs.length c) := HGu29.out.cell 3
       have zG := HGu29.out.lt
       refine hK.out _ _ ?hqtoo (fun hHeld => ?rqtoo)
       case hqtoo => ((try dsimp only); go_keep)
       clear hK Kq G0 G1 G2 G3 zG
       try simp only [Act.put, List.setIfInBounds_toArray, List.set_cons_zero, List.set_cons_succ]
       refine take_two (i := 10) (j := 13) rfl rfl (by kernel_rfl) (by rfl) (by rfl) (fun Kq hK => ?oneqtoo) (fun Kq hK => ?twoqtoo)
       case oneqtoo =>
        go_simp
        go_at_call 64
        refine (repeat_any (wr.heap.size) 0 rs.length u29 (by omega) hrl (HPu29.out.cell 0)).mono ?_
        rintro e u30 ⟨gL, rfl, hg, hgl, hb0⟩
        have HLu30 := Lib.hid hg
        have yu30 : gL < u30.heap.size := hg.lt
        have hb : Below u29.heap.size u29 u30 := hb0
        have HBu30 := Lib.hid (bthen HBu29.out hb HBu29.out.size)
        have zu30 : u29.heap.size ≤ u30.heap.size := hb.size
        have HGu30 := Lib.hid (HGu29.out.below hb HGu29.out.lt)
        have HPu30 := Lib.hid (HPu29.out.below hb HPu29.out.lt)
        have HQu30 := Lib.hid (HQu29.out.below hb HQu29.out.lt)
        have HTu30 := Lib.hid (HTu29.out.below hb HTu29.out.lt)
        clear hb HGu29 HPu29 HQu29 HTu29
        have xu30 : u29.heap.size ≤ gL := hgl
        clear hg hb0 hgl
        have G0 : u30.cell? ⟨w.heap.size, 0, none⟩ = some (.int .i64 gt) := HGu30.out.cell 0
        have G1 : u30.cell? ⟨w.heap.size, 1, none⟩ = some (.int .i64 (n : Int)) := HGu30.out.cell 1
        have G2 : u30.cell? ⟨w.heap.size, 2, none⟩ = some (.int .i64 gs) := HGu30.out.cell 2
        have G3 : u30.cell? ⟨w.heap.size, 3, none⟩ = some (.slice (some ⟨br, orr, none⟩) rs.length c) := HGu30.out.cell 3
        have zG := HGu30.out.lt
        refine hK.out _ _ ?hqtooo (fun hHeld => ?rqtooo)
        case hqtooo => ((try dsimp only); go_keep)
        clear hK Kq G0 G1 G2 G3 zG
        try simp only [Act.put, List.setIfInBounds_toArray, List.set_cons_zero, List.set_cons_succ]
        refine take_run (i := 12) (v := ?vqtooob12) rfl (by kernel_rfl) (by kernel_rfl) (by kernel_rfl) (fun _ _ _ h => h) (by rfl) ?yqtooob12 (by assumption) ?rqtooob12
        case yqtooob12 => (intro w hSw; (try dsimp only at hSw); go_simp; try with_reducible rfl)
        try simp only [Act.put, List.setIfInBounds_toArray, List.set_cons_zero, List.set_cons_succ]
        refine take_call (i := 13) rfl (by kernel_rfl) (by rfl) (fun Kq hK => ?_)
        go_simp
        obtain ⟨u31, hw⟩ : ∃ q : World, q = u30.alloc (.cells #[.int .i64 0, .int .i64 0, .slice none 0 0, .slice none 0 0, .int .i64 0, .int .i64 0, .int .i64 0, .slice none 0 0] 70) := ⟨_, rfl⟩
        rw [← hw]
        have HSu31 : Hid (Blk' u31 u30.heap.size 70 #[.int .i64 0, .int .i64 0, .slice none 0 0, .slice none 0 0, .int .i64 0, .int .i64 0, .int .i64 0, .slice none 0 0]) := Lib.hid (by rw [hw]; exact Blk'.new _ _ _)
        have hb : Below u30.heap.size u30 u31 := by rw [hw]; exact (Below.refl _ _).alloc (Nat.le_refl _) _
        have HBu31 := Lib.hid (bthen HBu30.out hb HBu30.out.size)
        have zu31 : u30.heap.size ≤ u31.heap.size := hb.size
        have HGu31 := Lib.hid (HGu30.out.below hb HGu30.out.lt)
        have HPu31 := Lib.hid (HPu30.out.below hb HPu30.out.lt)
        have HQu31 := Lib.hid (HQu30.out.below hb HQu30.out.lt)
        have HTu31 := Lib.hid (HTu30.out.below hb HTu30.out.lt)
        have HLu31 := Lib.hid (HLu30.out.below hb HLu30.out.lt)
        clear hb HGu30 HPu30 HQu30 HTu30 HLu30
        have yu31 : u30.heap.size < u31.heap.size := by rw [hw]; simp
        clear hw
        have G0 : u31.cell? ⟨w.heap.size, 0, none⟩ = some (.int .i64 gt) := HGu31.out.cell 0
        have G1 : u31.cell? ⟨w.heap.size, 1, none⟩ = some (.int .i64 (n : Int)) := HGu31.out.cell 1
        have G2 : u31.cell? ⟨w.heap.size, 2, none⟩ = some (.int .i64 gs) := HGu31.out.cell 2
        have G3 : u31.cell? ⟨w.heap.size, 3, none⟩ = some (.slice (some ⟨br, orr, none⟩) rs.length c) := HGu31.out.cell 3
        have zG := HGu31.out.lt
        refine hK.out _ _ ?hqtoooa (fun hHeld => ?rqtoooa)
        case hqtoooa => ((try dsimp only); go_keep)
        clear hK Kq G0 G1 G2 G3 zG
        try simp only [Act.put, List.setIfInBounds_toArray, List.set_cons_zero, List.set_cons_succ]
        refine take_call (i := 14) rfl (by kernel_rfl) (by rfl) (fun Kq hK => ?_)
        have G0 : u31.cell? ⟨w.heap.size, 0, none⟩ = some (.int .i64 gt) := HGu31.out.cell 0
        have G1 : u31.cell? ⟨w.heap.size, 1, none⟩ = some (.int .i64 (n : Int)) := HGu31.out.cell 1
        have G2 : u31.cell? ⟨w.heap.size, 2, none⟩ = some (.int .i64 gs) := HGu31.out.cell 2
        have G3 : u31.cell? ⟨w.heap.size, 3, none⟩ = some (.slice (some ⟨br, orr, none⟩) rs.length c) := HGu31.out.cell 3
        have zG := HGu31.out.lt
        have S0 : u31.cell? ⟨u30.heap.size, 0, none⟩ = some (.int .i64 0) := HSu31.out.cell 0
        have fS0 := HSu31.out.frozen 0
        have S1 : u31.cell? ⟨u30.heap.size, 1, none⟩ = some (.int .i64 0) := HSu31.out.cell 1
        have fS1 := HSu31.out.frozen 1
        have S2 : u31.cell? ⟨u30.heap.size, 2, none⟩ = some (.slice none 0 0) := HSu31.out.cell 2
        have fS2 := HSu31.out.frozen 2
        have S3 : u31.cell? ⟨u30.heap.size, 3, none⟩ = some (.slice none 0 0) := HSu31.out.cell 3
        have fS3 := HSu31.out.frozen 3
        have S4 : u31.cell? ⟨u30.heap.size, 4, none⟩ = some (.int .i64 0) := HSu31.out.cell 4
        have fS4 := HSu31.out.frozen 4
        have S5 : u31.cell? ⟨u30.heap.size, 5, none⟩ = some (.int .i64 0) := HSu31.out.cell 5
        have fS5 := HSu31.out.frozen 5
        have S6 : u31.cell? ⟨u30.heap.size, 6, none⟩ = some (.int .i64 0) := HSu31.out.cell 6
        have fS6 := HSu31.out.frozen 6
        have S7 : u31.cell? ⟨u30.heap.size, 7, none⟩ = some (.slice none 0 0) := HSu31.out.cell 7
        have fS7 := HSu31.out.frozen 7
        have zS := HSu31.out.lt
        have nS : ¬ u30.heap.size = w.heap.size := by have := zz0; omega
        have nS2 : ¬ w.heap.size = u30.heap.size := by have := zz0; omega
        go_simp
        refine hK.out _ _ ?hqtoooaz (fun hHeld => ?rqtoooaz)
        case hqtoooaz => ((try dsimp only); go_keep)
        clear hK Kq
        try simp only [Act.put, List.setIfInBounds_toArray, List.set_cons_zero, List.set_cons_succ]
        refine wpAnyH_done (by kernel_rfl) ?_ _
        refine NoPanic.normal ?_
        go_wp2_with fail
        go_meet
        generalize hwF : World.setCell _ _ _ = wF
        obtain ⟨hR, kF⟩ := set8 HSu31.out (.int .i64 (m : Int)) (.int .i64 0) (.slice (some ⟨gT, 0, none⟩) rs.length rs.length) (.slice (some ⟨gL, 0, none⟩) rs.length rs.length) (.int .i64 gt) (.int .i64 (n : Int)) (.int .i64 gs) (.slice (some ⟨br, orr, none⟩) rs.length c)
        rw [hwF] at hR kF
        have zF := kF.size
        exact ⟨gT, gL, u30.heap.size, rfl, hR, HTu31.out.kept kF (by omega), HLu31.out.kept kF (by omega), by omega, by omega, by omega, by omega, by omega, by omega, (HBu31.out).trans (kF.to_below (B := wo.heap.size) (fun b hb => by omega) HBu31.out.size)⟩
       case twoqtoo =>
        go_simp
        obtain ⟨u32, hw⟩ : ∃ q : World, q = u29.alloc (.cells #[.int .i64 0, .int .i64 0, .slice none 0 0, .slice none 0 0, .int .i64 0, .int .i64 0, .int .i64 0, .slice none 0 0] 70) := ⟨_, rfl⟩
        rw [← hw]
        have HSu32 : Hid (Blk' u32 u29.heap.size 70 #[.int .i64 0, .int .i64 0, .slice none 0 0, .slice none 0 0, .int .i64 0, .int .i64 0, .int .i64 0, .slice none 0 0]) := Lib.hid (by rw [hw]; exact Blk'.new _ _ _)
        have hb : Below u29.heap.size u29 u32 := by rw [hw]; exact (Below.refl _ _).alloc (Nat.le_refl _) _
        have HBu32 := Lib.hid (bthen HBu29.out hb HBu29.out.size)
        have zu32 : u29.heap.size ≤ u32.heap.size := hb.size
        have HGu32 := Lib.hid (HGu29.out.below hb HGu29.out.lt)
        have HPu32 := Lib.hid (HPu29.out.below hb HPu29.out.lt)
        have HQu32 := Lib.hid (HQu29.out.below hb HQu29.out.lt)
        have HTu32 := Lib.hid (HTu29.out.below hb HTu29.out.lt)
        clear hb HGu29 HPu29 HQu29 HTu29
        have yu32 : u29.heap.size < u32.heap.size := by rw [hw]; simp
        clear hw
        have G0 : u32.cell? ⟨w.heap.size, 0, none⟩ = some (.int .i64 gt) := HGu32.out.cell 0
        have G1 : u32.cell? ⟨w.heap.size, 1, none⟩ = some (.int .i64 (n : Int)) := HGu32.out.cell 1
        have G2 : u32.cell? ⟨w.heap.size, 2, none⟩ = some (.int .i64 gs) := HGu32.out.cell 2
        have G3 : u32.cell? ⟨w.heap.size, 3, none⟩ = some (.slice (some ⟨br, orr, none⟩) rs.length c) := HGu32.out.cell 3
        have zG := HGu32.out.lt
        refine hK.out _ _ ?hqtoot (fun hHeld => ?rqtoot)
        case hqtoot => ((try dsimp only); go_keep)
        clear hK Kq G0 G1 G2 G3 zG
        try simp only [Act.put, List.setIfInBounds_toArray, List.set_cons_zero, List.set_cons_succ]
        refine take_call (i := 10) rfl (by kernel_rfl) (by rfl) (fun Kq hK => ?_)
        go_simp
        go_at_call 64
        refine (repeat_any (wr.heap.size) 0 rs.length u32 (by omega) hrl (HPu32.out.cell 0)).mono ?_
        rintro e u33 ⟨gL, rfl, hg, hgl, hb0⟩
        have HLu33 := Lib.hid hg
        have yu33 : gL < u33.heap.size := hg.lt
        have hb : Below u32.heap.size u32 u33 := hb0
        have HBu33 := Lib.hid (bthen HBu32.out hb HBu32.out.size)
        have zu33 : u32.heap.size ≤ u33.heap.size := hb.size
        have HGu33 := Lib.hid (HGu32.out.below hb HGu32.out.lt)
        have HPu33 := Lib.hid (HPu32.out.below hb HPu32.out.lt)
        have HQu33 := Lib.hid (HQu32.out.below hb HQu32.out.lt)
        have HTu33 := Lib.hid (HTu32.out.below hb HTu32.out.lt)
        have HSu33 := Lib.hid (HSu32.out.below hb HSu32.out.lt)
        clear hb HGu32 HPu32 HQu32 HTu32 HSu32
        have xu33 : u32.heap.size ≤ gL := hgl
        clear hg hb0 hgl
        have G0 : u33.cell? ⟨w.heap.size, 0, none⟩ = some (.int .i64 gt) := HGu33.out.cell 0
        have G1 : u33.cell? ⟨w.heap.size, 1, none⟩ = some (.int .i64 (n : Int)) := HGu33.out.cell 1
        have G2 : u33.cell? ⟨w.heap.size, 2, none⟩ = some (.int .i64 gs) := HGu33.out.cell 2
        have G3 : u33.cell? ⟨w.heap.size, 3, none⟩ = some (.slice (some ⟨br, orr, none⟩) rs.length c) := HGu33.out.cell 3
        have zG := HGu33.out.lt
        refine hK.out _ _ ?hqtoota (fun hHeld => ?rqtoota)
        case hqtoota => ((try dsimp only); go_keep)
        clear hK Kq G0 G1 G2 G3 zG
        try simp only [Act.put, List.setIfInBounds_toArray, List.set_cons_zero, List.set_cons_succ]
        refine take_run (i := 12) (v := ?vqtootab12) rfl (by kernel_rfl) (by kernel_rfl) (by kernel_rfl) (fun _ _ _ h => h) (by rfl) ?yqtootab12 (by assumption) ?rqtootab12
        case yqtootab12 => (intro w hSw; (try dsimp only at hSw); go_simp; try with_reducible rfl)
        try simp only [Act.put, List.setIfInBounds_toArray, List.set_cons_zero, List.set_cons_succ]
        refine take_call (i := 14) rfl (by kernel_rfl) (by rfl) (fun Kq hK => ?_)
        have G0 : u33.cell? ⟨w.heap.size, 0, none⟩ = some (.int .i64 gt) := HGu33.out.cell 0
        have G1 : u33.cell? ⟨w.heap.size, 1, none⟩ = some (.int .i64 (n : Int)) := HGu33.out.cell 1
        have G2 : u33.cell? ⟨w.heap.size, 2, none⟩ = some (.int .i64 gs) := HGu33.out.cell 2
        have G3 : u33.cell? ⟨w.heap.size, 3, none⟩ = some (.slice (some ⟨br, orr, none⟩) rs.length c) := HGu33.out.cell 3
        have zG := HGu33.out.lt
        have S0 : u33.cell? ⟨u29.heap.size, 0, none⟩ = some (.int .i64 0) := HSu33.out.cell 0
        have fS0 := HSu33.out.frozen 0
        have S1 : u33.cell? ⟨u29.heap.size, 1, none⟩ = some (.int .i64 0) := HSu33.out.cell 1
        have fS1 := HSu33.out.frozen 1
        have S2 : u33.cell? ⟨u29.heap.size, 2, none⟩ = some (.slice none 0 0) := HSu33.out.cell 2
        have fS2 := HSu33.out.frozen 2
        have S3 : u33.cell? ⟨u29.heap.size, 3, none⟩ = some (.slice none 0 0) := HSu33.out.cell 3
        have fS3 := HSu33.out.frozen 3
        have S4 : u33.cell? ⟨u29.heap.size, 4, none⟩ = some (.int .i64 0) := HSu33.out.cell 4
        have fS4 := HSu33.out.frozen 4
        have S5 : u33.cell? ⟨u29.heap.size, 5, none⟩ = some (.int .i64 0) := HSu33.out.cell 5
        have fS5 := HSu33.out.frozen 5
        have S6 : u33.cell? ⟨u29.heap.size, 6, none⟩ = some (.int .i64 0) := HSu33.out.cell 6
        have fS6 := HSu33.out.frozen 6
        have S7 : u33.cell? ⟨u29.heap.size, 7, none⟩ = some (.slice none 0 0) := HSu33.out.cell 7
        have fS7 := HSu33.out.frozen 7
        have zS := HSu33.out.lt
        have nS : ¬ u29.heap.size = w.heap.size := by have := zz0; omega
        have nS2 : ¬ w.heap.size = u29.heap.size := by have := zz0; omega
        go_simp
        refine hK.out _ _ ?hqtootaz (fun hHeld => ?rqtootaz)
        case hqtootaz => ((try dsimp only); go_keep)
        clear hK Kq
        try simp only [Act.put, List.setIfInBounds_toArray, List.set_cons_zero, List.set_cons_succ]
        refine wpAnyH_done (by kernel_rfl) ?_ _
        refine NoPanic.normal ?_
        go_wp2_with fail
        go_meet
        generalize hwF : World.setCell _ _ _ = wF
        obtain ⟨hR, kF⟩ := set8 HSu33.out (.int .i64 (m : Int)) (.int .i64 0) (.slice (some ⟨gT, 0, none⟩) rs.length rs.length) (.slice (some ⟨gL, 0, none⟩) rs.length rs.length) (.int .i64 gt) (.int .i64 (n : Int)) (.int .i64 gs) (.slice (some ⟨br, orr, none⟩) rs.length c)
        rw [hwF] at hR kF
        have zF := kF.size
        exact ⟨gT, gL, u29.heap.size, rfl, hR, HTu33.out.kept kF (by omega), HLu33.out.kept kF (by omega), by omega, by omega, by omega, by omega, by omega, by omega, (HBu33.out).trans (kF.to_below (B := wo.heap.size) (fun b hb => by omega) HBu33.out.size)⟩
      case twoqto =>
       go_simp
       obtain ⟨u34, hw⟩ : ∃ q : World, q = u28.alloc (.cells #[.int .i64 0, .int .i64 0, .slice none 0 0, .slice none 0 0, .int .i64 0, .int .i64 0, .int .i64 0, .slice none 0 0] 70) := ⟨_, rfl⟩
       rw [← hw]
       have HSu34 : Hid (Blk' u34 u28.heap.size 70 #[.int .i64 0, .int .i64 0, .slice none 0 0, .slice none 0 0, .int .i64 0, .int .i64 0, .int .i64 0, .slice none 0 0]) := Lib.hid (by rw [hw]; exact Blk'.new _ _ _)
       have hb : Below u28.heap.size u28 u34 := by rw [hw]; exact (Below.refl _ _).alloc (Nat.le_refl _) _
       have HBu34 := Lib.hid (bthen HBu28.out hb HBu28.out.size)
       have zu34 : u28.heap.size ≤ u34.heap.size := hb.size
       have HGu34 := Lib.hid (HGu28.out.below hb HGu28.out.lt)
       have HPu34 := Lib.hid (HPu28.out.below hb HPu28.out.lt)
       have HQu34 := Lib.hid (HQu28.out.below hb HQu28.out.lt)
       clear hb HGu28 HPu28 HQu28
       have yu34 : u28.heap.size < u34.heap.size := by rw [hw]; simp
       clear hw
       have G0 : u34.cell? ⟨w.heap.size, 0, none⟩ = some (.int .i64 gt) := HGu34.out.cell 0
       have G1 : u34.cell? ⟨w.heap.size, 1, none⟩ = some (.int .i64 (n : Int)) := HGu34.out.cell 1
       have G2 : u34.cell? ⟨w.heap.size, 2, none⟩ = some (.int .i64 gs) := HGu34.out.cell 2
       have G3 : u34.cell? ⟨w.heap.size, 3, none⟩ = some (.slice (some ⟨br, orr, none⟩) rs.length c) := HGu34.out.cell 3
       have zG := HGu34.out.lt
       refine hK.out _ _ ?hqtot (fun hHeld => ?rqtot)
       case hqtot => ((try dsimp only); go_keep)
       clear hK Kq G0 G1 G2 G3 zG
       try simp only [Act.put, List.setIfInBounds_toArray, List.set_cons_zero, List.set_cons_succ]
       refine take_call (i := 5) rfl (by kernel_rfl) (by rfl) (fun Kq hK => ?_)
       go_simp
       go_at_call 64
       refine (repeat_any (u27.heap.size) 0 rs.length u34 (by omega) hrl (HQu34.out.cell 0)).mono ?_
       rintro e u35 ⟨gT, rfl, hg, hgl, hb0⟩
       have HTu35 := Lib.hid hg
       have yu35 : gT < u35.heap.size := hg.lt
       have hb : Below u34.heap.size u34 u35 := hb0
       have HBu35 := Lib.hid (bthen HBu34.out hb HBu34.out.size)
       have zu35 : u34.heap.size ≤ u35.heap.size := hb.size
       have HGu35 := Lib.hid (HGu34.out.below hb HGu34.out.lt)
       have HPu35 := Lib.hid (HPu34.out.below hb HPu34.out.lt)
       have HQu35 := Lib.hid (HQu34.out.below hb HQu34.out.lt)
       have HSu35 := Lib.hid (HSu34.out.below hb HSu34.out.lt)
       clear hb HGu34 HPu34 HQu34 HSu34
       have xu35 : u34.heap.size ≤ gT := hgl
       clear hg hb0 hgl
       have G0 : u35.cell? ⟨w.heap.size, 0, none⟩ = some (.int .i64 gt) := HGu35.out.cell 0
       have G1 : u35.cell? ⟨w.heap.size, 1, none⟩ = some (.int .i64 (n : Int)) := HGu35.out.cell 1
       have G2 : u35.cell? ⟨w.heap.size, 2, none⟩ = some (.int .i64 gs) := HGu35.out.cell 2
       have G3 : u35.cell? ⟨w.heap.size, 3, none⟩ = some (.slice (some ⟨br, orr, none⟩) rs.length c) := HGu35.out.cell 3
       have zG := HGu35.out.lt
       refine hK.out _ _ ?hqtota (fun hHeld => ?rqtota)
       case hqtota => ((try dsimp only); go_keep)
       clear hK Kq G0 G1 G2 G3 zG
       try simp only [Act.put, List.setIfInBounds_toArray, List.set_cons_zero, List.set_cons_succ]
       refine take_call (i := 10) rfl (by kernel_rfl) (by rfl) (fun Kq hK => ?_)
       go_simp
       go_at_call 64
       refine (repeat_any (wr.heap.size) 0 rs.length u35 (by omega) hrl (HPu35.out.cell 0)).mono ?_
       rintro e u36 ⟨gL, rfl, hg, hgl, hb0⟩
       have HLu36 := Lib.hid hg
       have yu36 : gL < u36.heap.size := hg.lt
       have hb : Below u35.heap.size u35 u36 := hb0
       have HBu36 := Lib.hid (bthen HBu35.out hb HBu35.out.size)
       have zu36 : u35.heap.size ≤ u36.heap.size := hb.size
       have HGu36 := Lib.hid (HGu35.out.below hb HGu35.out.lt)
       have HPu36 := Lib.hid (HPu35.out.below hb HPu35.out.lt)
       have HQu36 := Lib.hid (HQu35.out.below hb HQu35.out.lt)
       have HSu36 := Lib.hid (HSu35.out.below hb HSu35.out.lt)
       have HTu36 := Lib.hid (HTu35.out.below hb HTu35.out.lt)
       clear hb HGu35 HPu35 HQu35 HSu35 HTu35
       have xu36 : u35.heap.size ≤ gL := hgl
       clear hg hb0 hgl
       have G0 : u36.cell? ⟨w.heap.size, 0, none⟩ = some (.int .i64 gt) := HGu36.out.cell 0
       have G1 : u36.cell? ⟨w.heap.size, 1, none⟩ = some (.int .i64 (n : Int)) := HGu36.out.cell 1
       have G2 : u36.cell? ⟨w.heap.size, 2, none⟩ = some (.int .i64 gs) := HGu36.out.cell 2
       have G3 : u36.cell? ⟨w.heap.size, 3, none⟩ = some (.slice (some ⟨br, orr, none⟩) rs.length c) := HGu36.out.cell 3
       have zG := HGu36.out.lt
       refine hK.out _ _ ?hqtotaa (fun hHeld => ?rqtotaa)
       case hqtotaa => ((try dsimp only); go_keep)
       clear hK Kq G0 G1 G2 G3 zG
       try simp only [Act.put, List.setIfInBounds_toArray, List.set_cons_zero, List.set_cons_succ]
       refine take_run (i := 12) (v := ?vqtotaab12) rfl (by kernel_rfl) (by kernel_rfl) (by kernel_rfl) (fun _ _ _ h => h) (by rfl) ?yqtotaab12 (by assumption) ?rqtotaab12
       case yqtotaab12 => (intro w hSw; (try dsimp only at hSw); go_simp; try with_reducible rfl)
       try simp only [Act.put, List.setIfInBounds_toArray, List.set_cons_zero, List.set_cons_succ]
       refine take_call (i := 14) rfl (by kernel_rfl) (by rfl) (fun Kq hK => ?_)
       have G0 : u36.cell? ⟨w.heap.size, 0, none⟩ = some (.int .i64 gt) := HGu36.out.cell 0
       have G1 : u36.cell? ⟨w.heap.size, 1, none⟩ = some (.int .i64 (n : Int)) := HGu36.out.cell 1
       have G2 : u36.cell? ⟨w.heap.size, 2, none⟩ = some (.int .i64 gs) := HGu36.out.cell 2
       have G3 : u36.cell? ⟨w.heap.size, 3, none⟩ = some (.slice (some ⟨br, orr, none⟩) rs.length c) := HGu36.out.cell 3
       have zG := HGu36.out.lt
       have S0 : u36.cell? ⟨u28.heap.size, 0, none⟩ = some (.int .i64 0) := HSu36.out.cell 0
       have fS0 := HSu36.out.frozen 0
       have S1 : u36.cell? ⟨u28.heap.size, 1, none⟩ = some (.int .i64 0) := HSu36.out.cell 1
       have fS1 := HSu36.out.frozen 1
       have S2 : u36.cell? ⟨u28.heap.size, 2, none⟩ = some (.slice none 0 0) := HSu36.out.cell 2
       have fS2 := HSu36.out.frozen 2
       have S3 : u36.cell? ⟨u28.heap.size, 3, none⟩ = some (.slice none 0 0) := HSu36.out.cell 3
       have fS3 := HSu36.out.frozen 3
       have S4 : u36.cell? ⟨u28.heap.size, 4, none⟩ = some (.int .i64 0) := HSu36.out.cell 4
       have fS4 := HSu36.out.frozen 4
       have S5 : u36.cell? ⟨u28.heap.size, 5, none⟩ = some (.int .i64 0) := HSu36.out.cell 5
       have fS5 := HSu36.out.frozen 5
       have S6 : u36.cell? ⟨u28.heap.size, 6, none⟩ = some (.int .i64 0) := HSu36.out.cell 6
       have fS6 := HSu36.out.frozen 6
       have S7 : u36.cell? ⟨u28.heap.size, 7, none⟩ = some (.slice none 0 0) := HSu36.out.cell 7
       have fS7 := HSu36.out.frozen 7
       have zS := HSu36.out.lt
       have nS : ¬ u28.heap.size = w.heap.size := by have := zz0; omega
       have nS2 : ¬ w.heap.size = u28.heap.size := by have := zz0; omega
       go_simp
       refine hK.out _ _ ?hqtotaaz (fun hHeld => ?rqtotaaz)
       case hqtotaaz => ((try dsimp only); go_keep)
       clear hK Kq
       try simp only [Act.put, List.setIfInBounds_toArray, List.set_cons_zero, List.set_cons_succ]
       refine wpAnyH_done (by kernel_rfl) ?_ _
       refine NoPanic.normal ?_
       go_wp2_with fail
       go_meet
       generalize hwF : World.setCell _ _ _ = wF
       obtain ⟨hR, kF⟩ := set8 HSu36.out (.int .i64 (m : Int)) (.int .i64 0) (.slice (some ⟨gT, 0, none⟩) rs.length rs.length) (.slice (some ⟨gL, 0, none⟩) rs.length rs.length) (.int .i64 gt) (.int .i64 (n : Int)) (.int .i64 gs) (.slice (some ⟨br, orr, none⟩) rs.length c)
       rw [hwF] at hR kF
       have zF := kF.size
       exact ⟨gT, gL, u28.heap.size, rfl, hR, HTu36.out.kept kF (by omega), HLu36.out.kept kF (by omega), by omega, by omega, by omega, by omega, by omega, by omega, (HBu36.out).trans (kF.to_below (B := wo.heap.size) (fun b hb => by omega) HBu36.out.size)⟩
     case twoqt =>
      go_simp
      obtain ⟨u37, hw⟩ : ∃ q : World, q = u27.alloc (.cells #[.int .i64 0, .int .i64 0, .slice none 0 0, .slice none 0 0, .int .i64 0, .int .i64 0, .int .i64 0, .slice none 0 0] 70) := ⟨_, rfl⟩
      rw [← hw]
      have HSu37 : Hid (Blk' u37 u27.heap.size 70 #[.int .i64 0, .int .i64 0, .slice none 0 0, .slice none 0 0, .int .i64 0, .int .i64 0, .int .i64 0, .slice none 0 0]) := Lib.hid (by rw [hw]; exact Blk'.new _ _ _)
      have hb : Below u27.heap.size u27 u37 := by rw [hw]; exact (Below.refl _ _).alloc (Nat.le_refl _) _
      have HBu37 := Lib.hid (bthen HBu27.out hb HBu27.out.size)
      have zu37 : u27.heap.size ≤ u37.heap.size := hb.size
      have HGu37 := Lib.hid (HGu27.out.below hb HGu27.out.lt)
      have HPu37 := Lib.hid (HPu27.out.below hb HPu27.out.lt)
      clear hb HGu27 HPu27
      have yu37 : u27.heap.size < u37.heap.size := by rw [hw]; simp
      clear hw
      have G0 : u37.cell? ⟨w.heap.size, 0, none⟩ = some (.int .i64 gt) := HGu37.out.cell 0
      have G1 : u37.cell? ⟨w.heap.size, 1, none⟩ = some (.int .i64 (n : Int)) := HGu37.out.cell 1
      have G2 : u37.cell? ⟨w.heap.size, 2, none⟩ = some (.int .i64 gs) := HGu37.out.cell 2
      have G3 : u37.cell? ⟨w.heap.size, 3, none⟩ = some (.slice (some ⟨br, orr, none⟩) rs.length c) := HGu37.out.cell 3
      have zG := HGu37.out.lt
      refine hK.out _ _ ?hqtt (fun hHeld => ?rqtt)
      case hqtt => ((try dsimp only); go_keep)
      clear hK Kq G0 G1 G2 G3 zG
      try simp only [Act.put, List.setIfInBounds_toArray, List.set_cons_zero, List.set_cons_succ]
      refine take_call (i := 1) rfl (by kernel_rfl) (by rfl) (fun Kq hK => ?_)
      go_simp
      obtain ⟨u38, hw⟩ : ∃ q : World, q = u37.alloc (.cells #[.int .i64 (-1)] 3) := ⟨_, rfl⟩
      rw [← hw]
      have HQu38 : Hid (Blk' u38 u37.heap.size 3 #[.int .i64 (-1)]) := Lib.hid (by rw [hw]; exact Blk'.new _ _ _)
      have hb : Below u37.heap.size u37 u38 := by rw [hw]; exact (Below.refl _ _).alloc (Nat.le_refl _) _
      have HBu38 := Lib.hid (bthen HBu37.out hb HBu37.out.size)
      have zu38 : u37.heap.size ≤ u38.heap.size := hb.size
      have HGu38 := Lib.hid (HGu37.out.below hb HGu37.out.lt)
      have HPu38 := Lib.hid (HPu37.out.below hb HPu37.out.lt)
      have HSu38 := Lib.hid (HSu37.out.below hb HSu37.out.lt)
      clear hb HGu37 HPu37 HSu37
      have yu38 : u37.heap.size < u38.heap.size := by rw [hw]; simp
      clear hw
      have G0 : u38.cell? ⟨w.heap.size, 0, none⟩ = some (.int .i64 gt) := HGu38.out.cell 0
      have G1 : u38.cell? ⟨w.heap.size, 1, none⟩ = some (.int .i64 (n : Int)) := HGu38.out.cell 1
      have G2 : u38.cell? ⟨w.heap.size, 2, none⟩ = some (.int .i64 gs) := HGu38.out.cell 2
      have G3 : u38.cell? ⟨w.heap.size, 3, none⟩ = some (.slice (some ⟨br, orr, none⟩) rs.length c) := HGu38.out.cell 3
      have zG := HGu38.out.lt
      refine hK.out _ _ ?hqtta (fun hHeld => ?rqtta)
      case hqtta => ((try dsimp only); go_keep)
      clear hK Kq G0 G1 G2 G3 zG
      try simp only [Act.put, List.setIfInBounds_toArray, List.set_cons_zero, List.set_cons_succ]
      refine take_call (i := 5) rfl (by kernel_rfl) (by rfl) (fun Kq hK => ?_)
      go_simp
      go_at_call 64
      refine (repeat_any (u37.heap.size) 0 rs.length u38 (by omega) hrl (HQu38.out.cell 0)).mono ?_
      rintro e u39 ⟨gT, rfl, hg, hgl, hb0⟩
      have HTu39 := Lib.hid hg
      have yu39 : gT < u39.heap.size := hg.lt
      have hb : Below u38.heap.size u38 u39 := hb0
      have HBu39 := Lib.hid (bthen HBu38.out hb HBu38.out.size)
      have zu39 : u38.heap.size ≤ u39.heap.size := hb.size
      have HGu39 := Lib.hid (HGu38.out.below hb HGu38.out.lt)
      have HPu39 := Lib.hid (HPu38.out.below hb HPu38.out.lt)
      have HSu39 := Lib.hid (HSu38.out.below hb HSu38.out.lt)
      have HQu39 := Lib.hid (HQu38.out.below hb HQu38.out.lt)
      clear hb HGu38 HPu38 HSu38 HQu38
      have xu39 : u38.heap.size ≤ gT := hgl
      clear hg hb0 hgl
      have G0 : u39.cell? ⟨w.heap.size, 0, none⟩ = some (.int .i64 gt) := HGu39.out.cell 0
      have G1 : u39.cell? ⟨w.heap.size, 1, none⟩ = some (.int .i64 (n : Int)) := HGu39.out.cell 1
      have G2 : u39.cell? ⟨w.heap.size, 2, none⟩ = some (.int .i64 gs) := HGu39.out.cell 2
      have G3 : u39.cell? ⟨w.heap.size, 3, none⟩ = some (.slice (some ⟨br, orr, none⟩) rs.length c) := HGu39.out.cell 3
      have zG := HGu39.out.lt
      refine hK.out _ _ ?hqttaa (fun hHeld => ?rqttaa)
      case hqttaa => ((try dsimp only); go_keep)
      clear hK Kq G0 G1 G2 G3 zG
      try simp only [Act.put, List.setIfInBounds_toArray, List.set_cons_zero, List.set_cons_succ]
      refine take_call (i := 10) rfl (by kernel_rfl) (by rfl) (fun Kq hK => ?_)
      go_simp
      go_at_call 64
      refine (repeat_any (wr.heap.size) 0 rs.length u39 (by omega) hrl (HPu39.out.cell 0)).mono ?_
      rintro e u40 ⟨gL, rfl, hg, hgl, hb0⟩
      have HLu40 := Lib.hid hg
      have yu40 : gL < u40.heap.size := hg.lt
      have hb : Below u39.heap.size u39 u40 := hb0
      have HBu40 := Lib.hid (bthen HBu39.out hb HBu39.out.size)
      have zu40 : u39.heap.size ≤ u40.heap.size := hb.size
      have HGu40 := Lib.hid (HGu39.out.below hb HGu39.out.lt)
      have HPu40 := Lib.hid (HPu39.out.below hb HPu39.out.lt)
      have HSu40 := Lib.hid (HSu39.out.below hb HSu39.out.lt)
      have HQu40 := Lib.hid (HQu39.out.below hb HQu39.out.lt)
      have HTu40 := Lib.hid (HTu39.out.below hb HTu39.out.lt)
      clear hb HGu39 HPu39 HSu39 HQu39 HTu39
      have xu40 : u39.heap.size ≤ gL := hgl
      clear hg hb0 hgl
      have G0 : u40.cell? ⟨w.heap.size, 0, none⟩ = some (.int .i64 gt) := HGu40.out.cell 0
      have G1 : u40.cell? ⟨w.heap.size, 1, none⟩ = some (.int .i64 (n : Int)) := HGu40.out.cell 1
      have G2 : u40.cell? ⟨w.heap.size, 2, none⟩ = some (.int .i64 gs) := HGu40.out.cell 2
      have G3 : u40.cell? ⟨w.heap.size, 3, none⟩ = some (.slice (some ⟨br, orr, none⟩) rs.length c) := HGu40.out.cell 3
      have zG := HGu40.out.lt
      refine hK.out _ _ ?hqttaaa (fun hHeld => ?rqttaaa)
      case hqttaaa => ((try dsimp only); go_keep)
      clear hK Kq G0 G1 G2 G3 zG
      try simp only [Act.put, List.setIfInBounds_toArray, List.set_cons_zero, List.set_cons_succ]
      refine take_run (i := 12) (v := ?vqttaaab12) rfl (by kernel_rfl) (by kernel_rfl) (by kernel_rfl) (fun _ _ _ h => h) (by rfl) ?yqttaaab12 (by assumption) ?rqttaaab12
      case yqttaaab12 => (intro w hSw; (try dsimp only at hSw); go_simp; try with_reducible rfl)
      try simp only [Act.put, List.setIfInBounds_toArray, List.set_cons_zero, List.set_cons_succ]
      refine take_call (i := 14) rfl (by kernel_rfl) (by rfl) (fun Kq hK => ?_)
      have G0 : u40.cell? ⟨w.heap.size, 0, none⟩ = some (.int .i64 gt) := HGu40.out.cell 0
      have G1 : u40.cell? ⟨w.heap.size, 1, none⟩ = some (.int .i64 (n : Int)) := HGu40.out.cell 1
      have G2 : u40.cell? ⟨w.heap.size, 2, none⟩ = some (.int .i64 gs) := HGu40.out.cell 2
      have G3 : u40.cell? ⟨w.heap.size, 3, none⟩ = some (.slice (some ⟨br, orr, none⟩) rs.length c) := HGu40.out.cell 3
      have zG := HGu40.out.lt
      have S0 : u40.cell? ⟨u27.heap.size, 0, none⟩ = some (.int .i64 0) := HSu40.out.cell 0
      have fS0 := HSu40.out.frozen 0
      have S1 : u40.cell? ⟨u27.heap.size, 1, none⟩ = some (.int .i64 0) := HSu40.out.cell 1
      have fS1 := HSu40.out.frozen 1
      have S2 : u40.cell? ⟨u27.heap.size, 2, none⟩ = some (.slice none 0 0) := HSu40.out.cell 2
      have fS2 := HSu40.out.frozen 2
      have S3 : u40.cell? ⟨u27.heap.size, 3, none⟩ = some (.slice none 0 0) := HSu40.out.cell 3
      have fS3 := HSu40.out.frozen 3
      have S4 : u40.cell? ⟨u27.heap.size, 4, none⟩ = some (.int .i64 0) := HSu40.out.cell 4
      have fS4 := HSu40.out.frozen 4
      have S5 : u40.cell? ⟨u27.heap.size, 5, none⟩ = some (.int .i64 0) := HSu40.out.cell 5
      have fS5 := HSu40.out.frozen 5
      have S6 : u40.cell? ⟨u27.heap.size, 6, none⟩ = some (.int .i64 0) := HSu40.out.cell 6
      have fS6 := HSu40.out.frozen 6
      have S7 : u40.cell? ⟨u27.heap.size, 7, none⟩ = some (.slice none 0 0) := HSu40.out.cell 7
      have fS7 := HSu40.out.frozen 7
      have zS := HSu40.out.lt
      have nS : ¬ u27.heap.size = w.heap.size := by have := zz0; omega
      have nS2 : ¬ w.heap.size = u27.heap.size := by have := zz0; omega
      go_simp
      refine hK.out _ _ ?hqttaaaz (fun hHeld => ?rqttaaaz)
      case hqttaaaz => ((try dsimp only); go_keep)
      clear hK Kq
      try simp only [Act.put, List.setIfInBounds_toArray, List.set_cons_zero, List.set_cons_succ]
      refine wpAnyH_done (by kernel_rfl) ?_ _
      refine NoPanic.normal ?_
      go_wp2_with fail
      go_meet
      generalize hwF : World.setCell _ _ _ = wF
      obtain ⟨hR, kF⟩ := set8 HSu40.out (.int .i64 (m : Int)) (.int .i64 0) (.slice (some ⟨gT, 0, none⟩) rs.length rs.length) (.slice (some ⟨gL, 0, none⟩) rs.length rs.length) (.int .i64 gt) (.int .i64 (n : Int)) (.int .i64 gs) (.slice (some ⟨br, orr, none⟩) rs.length c)
      rw [hwF] at hR kF
      have zF := kF.size
      exact ⟨gT, gL, u27.heap.size, rfl, hR, HTu40.out.kept kF (by omega), HLu40.out.kept kF (by omega), by omega, by omega, by omega, by omega, by omega, by omega, (HBu40.out).trans (kF.to_below (B := wo.heap.size) (fun b hb => by omega) HBu40.out.size)⟩
    case thrq =>
     go_simp
     obtain ⟨u41, hw⟩ : ∃ q : World, q = wr.alloc (.cells #[.int .i64 0, .int .i64 0, .slice none 0 0, .slice none 0 0, .int .i64 0, .int .i64 0, .int .i64 0, .slice none 0 0] 70) := ⟨_, rfl⟩
     rw [← hw]
     have HSu41 : Hid (Blk' u41 wr.heap.size 70 #[.int .i64 0, .int .i64 0, .slice none 0 0, .slice none 0 0, .int .i64 0, .int .i64 0, .int .i64 0, .slice none 0 0]) := Lib.hid (by rw [hw]; exact Blk'.new _ _ _)
     have hb : Below wr.heap.size wr u41 := by rw [hw]; exact (Below.refl _ _).alloc (Nat.le_refl _) _
     have HBu41 := Lib.hid (bthen HBwr.out hb HBwr.out.size)
     have zu41 : wr.heap.size ≤ u41.heap.size := hb.size
     have HGu41 := Lib.hid (HGwr.out.below hb HGwr.out.lt)
     clear hb HGwr
     have yu41 : wr.heap.size < u41.heap.size := by rw [hw]; simp
     clear hw
     have G0 : u41.cell? ⟨w.heap.size, 0, none⟩ = some (.int .i64 gt) := HGu41.out.cell 0
     have G1 : u41.cell? ⟨w.heap.size, 1, none⟩ = some (.int .i64 (n : Int)) := HGu41.out.cell 1
     have G2 : u41.cell? ⟨w.heap.size, 2, none⟩ = some (.int .i64 gs) := HGu41.out.cell 2
     have G3 : u41.cell? ⟨w.heap.size, 3, none⟩ = some (.slice (some ⟨br, orr, none⟩) rs.length c) := HGu41.out.cell 3
     have zG := HGu41.out.lt
     refine hK.out _ _ ?hqh (fun hHeld => ?rqh)
     case hqh => ((try dsimp only); go_keep)
     clear hK Kq G0 G1 G2 G3 zG
     try simp only [Act.put, List.setIfInBounds_toArray, List.set_cons_zero, List.set_cons_succ]
     refine take_two (i := 1) (j := 6) rfl rfl (by kernel_rfl) (by rfl) (by rfl) (fun Kq hK => ?oneqh) (fun Kq hK => ?twoqh)
     case oneqh =>
      go_simp
      obtain ⟨u42, hw⟩ : ∃ q : World, q = u41.alloc (.cells #[.int .i64 (-1)] 3) := ⟨_, rfl⟩
      rw [← hw]
      have HQu42 : Hid (Blk' u42 u41.heap.size 3 #[.int .i64 (-1)]) := Lib.hid (by rw [hw]; exact Blk'.new _ _ _)
      have hb : Below u41.heap.size u41 u42 := by rw [hw]; exact (Below.refl _ _).alloc (Nat.le_refl _) _
      have HBu42 := Lib.hid (bthen HBu41.out hb HBu41.out.size)
      have zu42 : u41.heap.size ≤ u42.heap.size := hb.size
      have HGu42 := Lib.hid (HGu41.out.below hb HGu41.out.lt)
      have HSu42 := Lib.hid (HSu41.out.below hb HSu41.out.lt)
      clear hb HGu41 HSu41
      have yu42 : u41.heap.size < u42.heap.size := by rw [hw]; simp
      clear hw
      have G0 : u42.cell? ⟨w.heap.size, 0, none⟩ = some (.int .i64 gt) := HGu42.out.cell 0
      have G1 : u42.cell? ⟨w.heap.size, 1, none⟩ = some (.int .i64 (n : Int)) := HGu42.out.cell 1
      have G2 : u42.cell? ⟨w.heap.size, 2, none⟩ = some (.int .i64 gs) := HGu42.out.cell 2
      have G3 : u42.cell? ⟨w.heap.size, 3, none⟩ = some (.slice (some ⟨br, orr, none⟩) rs.length c) := HGu42.out.cell 3
      have zG := HGu42.out.lt
      refine hK.out _ _ ?hqho (fun hHeld => ?rqho)
      case hqho => ((try dsimp only); go_keep)
      clear hK Kq G0 G1 G2 G3 zG
      try simp only [Act.put, List.setIfInBounds_toArray, List.set_cons_zero, List.set_cons_succ]
      refine take_two (i := 5) (j := 6) rfl rfl (by kernel_rfl) (by rfl) (by rfl) (fun Kq hK => ?oneqho) (fun Kq hK => ?twoqho)
      case oneqho =>
       go_simp
       go_at_call 64
       refine (repeat_any (u41.heap.size) 0 rs.length u42 (by omega) hrl (HQu42.out.cell 0)).mono ?_
       rintro e u43 ⟨gT, rfl, hg, hgl, hb0⟩
       have HTu43 := Lib.hid hg
       have yu43 : gT < u43.heap.size := hg.lt
       have hb : Below u42.heap.size u42 u43 := hb0
       have HBu43 := Lib.hid (bthen HBu42.out hb HBu42.out.size)
       have zu43 : u42.heap.size ≤ u43.heap.size := hb.size
       have HGu43 := Lib.hid (HGu42.out.below hb HGu42.out.lt)
       have HSu43 := Lib.hid (HSu42.out.below hb HSu42.out.lt)
       have HQu43 := Lib.hid (HQu42.out.below hb HQu42.out.lt)
       clear hb HGu42 HSu42 HQu42
       have xu43 : u42.heap.size ≤ gT := hgl
       clear hg hb0 hgl
       have G0 : u43.cell? ⟨w.heap.size, 0, none⟩ = some (.int .i64 gt) := HGu43.out.cell 0
       have G1 : u43.cell? ⟨w.heap.size, 1, none⟩ = some (.int .i64 (n : Int)) := HGu43.out.cell 1
       have G2 : u43.cell? ⟨w.heap.size, 2, none⟩ = some (.int .i64 gs) := HGu43.out.cell 2
       have G3 : u43.cell? ⟨w.heap.size, 3, none⟩ = some (.slice (some ⟨br, orr, none⟩) rs.length c) := HGu43.out.cell 3
       have zG := HGu43.out.lt
       refine hK.out _ _ ?hqhoo (fun hHeld => ?rqhoo)
       case hqhoo => ((try dsimp only); go_keep)
       clear hK Kq G0 G1 G2 G3 zG
       try simp only [Act.put, List.setIfInBounds_toArray, List.set_cons_zero, List.set_cons_succ]
       refine take_call (i := 6) rfl (by kernel_rfl) (by rfl) (fun Kq hK => ?_)
       go_simp
       obtain ⟨u44, hw⟩ : ∃ q : World, q = u43.alloc (.cells #[.int .i64 (-1)] 3) := ⟨_, rfl⟩
       rw [← hw]
       have HPu44 : Hid (Blk' u44 u43.heap.size 3 #[.int .i64 (-1)]) := Lib.hid (by rw [hw]; exact Blk'.new _ _ _)
       have hb : Below u43.heap.size u43 u44 := by rw [hw]; exact (Below.refl _ _).alloc (Nat.le_refl _) _
       have HBu44 := Lib.hid (bthen HBu43.out hb HBu43.out.size)
       have zu44 : u43.heap.size ≤ u44.heap.size := hb.size
       have HGu44 := Lib.hid (HGu43.out.below hb HGu43.out.lt)
       have HSu44 := Lib.hid (HSu43.out.below hb HSu43.out.lt)
       have HQu44 := Lib.hid (HQu43.out.below hb HQu43.out.lt)
       have HTu44 := Lib.hid (HTu43.out.below hb HTu43.out.lt)
       clear hb HGu43 HSu43 HQu43 HTu43
       have yu44 : u43.heap.size < u44.heap.size := by rw [hw]; simp
       clear hw
       have G0 : u44.cell? ⟨w.heap.size, 0, none⟩ = some (.int .i64 gt) := HGu44.out.cell 0
       have G1 : u44.cell? ⟨w.heap.size, 1, none⟩ = some (.int .i64 (n : Int)) := HGu44.out.cell 1
       have G2 : u44.cell? ⟨w.heap.size, 2, none⟩ = some (.int .i64 gs) := HGu44.out.cell 2
       have G3 : u44.cell? ⟨w.heap.size, 3, none⟩ = some (.slice (some ⟨br, orr, none⟩) rs.length c) := HGu44.out.cell 3
       have zG := HGu44.out.lt
       refine hK.out _ _ ?hqhooa (fun hHeld => ?rqhooa)
       case hqhooa => ((try dsimp only); go_keep)
       clear hK Kq G0 G1 G2 G3 zG
       try simp only [Act.put, List.setIfInBounds_toArray, List.set_cons_zero, List.set_cons_succ]
       refine take_call (i := 10) rfl (by kernel_rfl) (by rfl) (fun Kq hK => ?_)
       go_simp
       go_at_call 64
       refine (repeat_any (u43.heap.size) 0 rs.length u44 (by omega) hrl (HPu44.out.cell 0)).mono ?_
       rintro e u45 ⟨gL, rfl, hg, hgl, hb0⟩
       have HLu45 := Lib.hid hg
       have yu45 : gL < u45.heap.size := hg.lt
       have hb : Below u44.heap.size u44 u45 := hb0
       have HBu45 := Lib.hid (bthen HBu44.out hb HBu44.out.size)
       have zu45 : u44.heap.size ≤ u45.heap.size := hb.size
       have HGu45 := Lib.hid (HGu44.out.below hb HGu44.out.lt)
       have HSu45 := Lib.hid (HSu44.out.below hb HSu44.out.lt)
       have HQu45 := Lib.hid (HQu44.out.below hb HQu44.out.lt)
       have HTu45 := Lib.hid (HTu44.out.below hb HTu44.out.lt)
       have HPu45 := Lib.hid (HPu44.out.below hb HPu44.out.lt)
       clear hb HGu44 HSu44 HQu44 HTu44 HPu44
       have xu45 : u44.heap.size ≤ gL := hgl
       clear hg hb0 hgl
       have G0 : u45.cell? ⟨w.heap.size, 0, none⟩ = some (.int .i64 gt) := HGu45.out.cell 0
       have G1 : u45.cell? ⟨w.heap.size, 1, none⟩ = some (.int .i64 (n : Int)) := HGu45.out.cell 1
       have G2 : u45.cell? ⟨w.heap.size, 2, none⟩ = some (.int .i64 gs) := HGu45.out.cell 2
       have G3 : u45.cell? ⟨w.heap.size, 3, none⟩ = some (.slice (some ⟨br, orr, none⟩) rs.length c) := HGu45.out.cell 3
       have zG := HGu45.out.lt
       refine hK.out _ _ ?hqhooaa (fun hHeld => ?rqhooaa)
       case hqhooaa => ((try dsimp only); go_keep)
       clear hK Kq G0 G1 G2 G3 zG
       try simp only [Act.put, List.setIfInBounds_toArray, List.set_cons_zero, List.set_cons_succ]
       refine take_run (i := 12) (v := ?vqhooaab12) rfl (by kernel_rfl) (by kernel_rfl) (by kernel_rfl) (fun _ _ _ h => h) (by rfl) ?yqhooaab12 (by assumption) ?rqhooaab12
       case yqhooaab12 => (intro w hSw; (try dsimp only at hSw); go_simp; try with_reducible rfl)
       try simp only [Act.put, List.setIfInBounds_toArray, List.set_cons_zero, List.set_cons_succ]
       refine take_call (i := 14) rfl (by kernel_rfl) (by rfl) (fun Kq hK => ?_)
       have G0 : u45.cell? ⟨w.heap.size, 0, none⟩ = some (.int .i64 gt) := HGu45.out.cell 0
       have G1 : u45.cell? ⟨w.heap.size, 1, none⟩ = some (.int .i64 (n : Int)) := HGu45.out.cell 1
       have G2 : u45.cell? ⟨w.heap.size, 2, none⟩ = some (.int .i64 gs) := HGu45.out.cell 2
       have G3 : u45.cell? ⟨w.heap.size, 3, none⟩ = some (.slice (some ⟨br, orr, none⟩) rs.length c) := HGu45.out.cell 3
       have zG := HGu45.out.lt
       have S0 : u45.cell? ⟨wr.heap.size, 0, none⟩ = some (.int .i64 0) := HSu45.out.cell 0
       have fS0 := HSu45.out.frozen 0
       have S1 : u45.cell? ⟨wr.heap.size, 1, none⟩ = some (.int .i64 0) := HSu45.out.cell 1
       have fS1 := HSu45.out.frozen 1
       have S2 : u45.cell? ⟨wr.heap.size, 2, none⟩ = some (.slice none 0 0) := HSu45.out.cell 2
       have fS2 := HSu45.out.frozen 2
       have S3 : u45.cell? ⟨wr.heap.size, 3, none⟩ = some (.slice none 0 0) := HSu45.out.cell 3
       have fS3 := HSu45.out.frozen 3
       have S4 : u45.cell? ⟨wr.heap.size, 4, none⟩ = some (.int .i64 0) := HSu45.out.cell 4
       have fS4 := HSu45.out.frozen 4
       have S5 : u45.cell? ⟨wr.heap.size, 5, none⟩ = some (.int .i64 0) := HSu45.out.cell 5
       have fS5 := HSu45.out.frozen 5
       have S6 : u45.cell? ⟨wr.heap.size, 6, none⟩ = some (.int .i64 0) := HSu45.out.cell 6
       have fS6 := HSu45.out.frozen 6
       have S7 : u45.cell? ⟨wr.heap.size, 7, none⟩ = some (.slice none 0 0) := HSu45.out.cell 7
       have fS7 := HSu45.out.frozen 7
       have zS := HSu45.out.lt
       have nS : ¬ wr.heap.size = w.heap.size := by have := zz0; omega
       have nS2 : ¬ w.heap.size = wr.heap.size := by have := zz0; omega
       go_simp
       refine hK.out _ _ ?hqhooaaz (fun hHeld => ?rqhooaaz)
       case hqhooaaz => ((try dsimp only); go_keep)
       clear hK Kq
       try simp only [Act.put, List.setIfInBounds_toArray, List.set_cons_zero, List.set_cons_succ]
       refine wpAnyH_done (by kernel_rfl) ?_ _
       refine NoPanic.normal ?_
       go_wp2_with fail
       go_meet
       generalize hwF : World.setCell _ _ _ = wF
       obtain ⟨hR, kF⟩ := set8 HSu45.out (.int .i64 (m : Int)) (.int .i64 0) (.slice (some ⟨gT, 0, none⟩) rs.length rs.length) (.slice (some ⟨gL, 0, none⟩) rs.length rs.length) (.int .i64 gt) (.int .i64 (n : Int)) (.int .i64 gs) (.slice (some ⟨br, orr, none⟩) rs.length c)
       rw [hwF] at hR kF
       have zF := kF.size
       exact ⟨gT, gL, wr.heap.size, rfl, hR, HTu45.out.kept kF (by omega), HLu45.out.kept kF (by omega), by omega, by omega, by omega, by omega, by omega, by omega, (HBu45.out).trans (kF.to_below (B := wo.heap.size) (fun b hb => by omega) HBu45.out.size)⟩
      case twoqho =>
       go_simp
       obtain ⟨u46, hw⟩ : ∃ q : World, q = u42.alloc (.cells #[.int .i64 (-1)] 3) := ⟨_, rfl⟩
       rw [← hw]
       have HPu46 : Hid (Blk' u46 u42.heap.size 3 #[.int .i64 (-1)]) := Lib.hid (by rw [hw]; exact Blk'.new _ _ _)
       have hb : Below u42.heap.size u42 u46 := by rw [hw]; exact (Below.refl _ _).alloc (Nat.le_refl _) _
       have HBu46 := Lib.hid (bthen HBu42.out hb HBu42.out.size)
       have zu46 : u42.heap.size ≤ u46.heap.size := hb.size
       have HGu46 := Lib.hid (HGu42.out.below hb HGu42.out.lt)
       have HSu46 := Lib.hid (HSu42.out.below hb HSu42.out.lt)
       have HQu46 := Lib.hid (HQu42.out.below hb HQu42.out.lt)
       clear hb HGu42 HSu42 HQu42
       have yu46 : u42.heap.size < u46.heap.size := by rw [hw]; simp
       clear hw
       have G0 : u46.cell? ⟨w.heap.size, 0, none⟩ = some (.int .i64 gt) := HGu46.out.cell 0
       have G1 : u46.cell? ⟨w.heap.size, 1, none⟩ = some (.int .i64 (n : Int)) := HGu46.out.cell 1
       have G2 : u46.cell? ⟨w.heap.size, 2, none⟩ = some (.int .i64 gs) := HGu46.out.cell 2
       have G3 : u46.cell? ⟨w.heap.size, 3, none⟩ = some (.slice (some ⟨br, orr, none⟩) rs.length c) := HGu46.out.cell 3
       have zG := HGu46.out.lt
       refine hK.out _ _ ?hqhot (fun hHeld => ?rqhot)
       case hqhot => ((try dsimp only); go_keep)
       clear hK Kq G0 G1 G2 G3 zG
       try simp only [Act.put, List.setIfInBounds_toArray, List.set_cons_zero, List.set_cons_succ]
       refine take_call (i := 5) rfl (by kernel_rfl) (by rfl) (fun Kq hK => ?_)
       go_simp
       go_at_call 64
       refine (repeat_any (u41.heap.size) 0 rs.length u46 (by omega) hrl (HQu46.out.cell 0)).mono ?_
       rintro e u47 ⟨gT, rfl, hg, hgl, hb0⟩
       have HTu47 := Lib.hid hg
       have yu47 : gT < u47.heap.size := hg.lt
       have hb : Below u46.heap.size u46 u47 := hb0
       have HBu47 := Lib.hid (bthen HBu46.out hb HBu46.out.size)
       have zu47 : u46.heap.size ≤ u47.heap.size := hb.size
       have HGu47 := Lib.hid (HGu46.out.below hb HGu46.out.lt)
       have HSu47 := Lib.hid (HSu46.out.below hb HSu46.out.lt)
       have HQu47 := Lib.hid (HQu46.out.below hb HQu46.out.lt)
       have HPu47 := Lib.hid (HPu46.out.below hb HPu46.out.lt)
       clear hb HGu46 HSu46 HQu46 HPu46
       have xu47 : u46.heap.size ≤ gT := hgl
       clear hg hb0 hgl
       have G0 : u47.cell? ⟨w.heap.size, 0, none⟩ = some (.int .i64 gt) := HGu47.out.cell 0
       have G1 : u47.cell? ⟨w.heap.size, 1, none⟩ = some (.int .i64 (n : Int)) := HGu47.out.cell 1
       have G2 : u47.cell? ⟨w.heap.size, 2, none⟩ = some (.int .i64 gs) := HGu47.out.cell 2
       have G3 : u47.cell? ⟨w.heap.size, 3, none⟩ = some (.slice (some ⟨br, orr, none⟩) rs.length c) := HGu47.out.cell 3
       have zG := HGu47.out.lt
       refine hK.out _ _ ?hqhota (fun hHeld => ?rqhota)
       case hqhota => ((try dsimp only); go_keep)
       clear hK Kq G0 G1 G2 G3 zG
       try simp only [Act.put, List.setIfInBounds_toArray, List.set_cons_zero, List.set_cons_succ]
       refine take_call (i := 10) rfl (by kernel_rfl) (by rfl) (fun Kq hK => ?_)
       go_simp
       go_at_call 64
       refine (repeat_any (u42.heap.size) 0 rs.length u47 (by omega) hrl (HPu47.out.cell 0)).mono ?_
       rintro e u48 ⟨gL, rfl, hg, hgl, hb0⟩
       have HLu48 := Lib.hid hg
       have yu48 : gL < u48.heap.size := hg.lt
       have hb : Below u47.heap.size u47 u48 := hb0
       have HBu48 := Lib.hid (bthen HBu47.out hb HBu47.out.size)
       have zu48 : u47.heap.size ≤ u48.heap.size := hb.size
       have HGu48 := Lib.hid (HGu47.out.below hb HGu47.out.lt)
       have HSu48 := Lib.hid (HSu47.out.below hb HSu47.out.lt)
       have HQu48 := Lib.hid (HQu47.out.below hb HQu47.out.lt)
       have HPu48 := Lib.hid (HPu47.out.below hb HPu47.out.lt)
       have HTu48 := Lib.hid (HTu47.out.below hb HTu47.out.lt)
       clear hb HGu47 HSu47 HQu47 HPu47 HTu47
       have xu48 : u47.heap.size ≤ gL := hgl
       clear hg hb0 hgl
       have G0 : u48.cell? ⟨w.heap.size, 0, none⟩ = some (.int .i64 gt) := HGu48.out.cell 0
       have G1 : u48.cell? ⟨w.heap.size, 1, none⟩ = some (.int .i64 (n : Int)) := HGu48.out.cell 1
       have G2 : u48.cell? ⟨w.heap.size, 2, none⟩ = some (.int .i64 gs) := HGu48.out.cell 2
       have G3 : u48.cell? ⟨w.heap.size, 3, none⟩ = some (.slice (some ⟨br, orr, none⟩) rs.length c) := HGu48.out.cell 3
       have zG := HGu48.out.lt
       refine hK.out _ _ ?hqhotaa (fun hHeld => ?rqhotaa)
       case hqhotaa => ((try dsimp only); go_keep)
       clear hK Kq G0 G1 G2 G3 zG
       try simp only [Act.put, List.setIfInBounds_toArray, List.set_cons_zero, List.set_cons_succ]
       refine take_run (i := 12) (v := ?vqhotaab12) rfl (by kernel_rfl) (by kernel_rfl) (by kernel_rfl) (fun _ _ _ h => h) (by rfl) ?yqhotaab12 (by assumption) ?rqhotaab12
       case yqhotaab12 => (intro w hSw; (try dsimp only at hSw); go_simp; try with_reducible rfl)
       try simp only [Act.put, List.setIfInBounds_toArray, List.set_cons_zero, List.set_cons_succ]
       refine take_call (i := 14) rfl (by kernel_rfl) (by rfl) (fun Kq hK => ?_)
       have G0 : u48.cell? ⟨w.heap.size, 0, none⟩ = some (.int .i64 gt) := HGu48.out.cell 0
       have G1 : u48.cell? ⟨w.heap.size, 1, none⟩ = some (.int .i64 (n : Int)) := HGu48.out.cell 1
       have G2 : u48.cell? ⟨w.heap.size, 2, none⟩ = some (.int .i64 gs) := HGu48.out.cell 2
       have G3 : u48.cell? ⟨w.heap.size, 3, none⟩ = some (.slice (some ⟨br, orr, none⟩) rs.length c) := HGu48.out.cell 3
       have zG := HGu48.out.lt
       have S0 : u48.cell? ⟨wr.heap.size, 0, none⟩ = some (.int .i64 0) := HSu48.out.cell 0
       have fS0 := HSu48.out.frozen 0
       have S1 : u48.cell? ⟨wr.heap.size, 1, none⟩ = some (.int .i64 0) := HSu48.out.cell 1
       have fS1 := HSu48.out.frozen 1
       have S2 : u48.cell? ⟨wr.heap.size, 2, none⟩ = some (.slice none 0 0) := HSu48.out.cell 2
       have fS2 := HSu48.out.frozen 2
       have S3 : u48.cell? ⟨wr.heap.size, 3, none⟩ = some (.slice none 0 0) := HSu48.out.cell 3
       have fS3 := HSu48.out.frozen 3
       have S4 : u48.cell? ⟨wr.heap.size, 4, none⟩ = some (.int .i64 0) := HSu48.out.cell 4
       have fS4 := HSu48.out.frozen 4
       have S5 : u48.cell? ⟨wr.heap.size, 5, none⟩ = some (.int .i64 0) := HSu48.out.cell 5
       have fS5 := HSu48.out.frozen 5
       have S6 : u48.cell? ⟨wr.heap.size, 6, none⟩ = some (.int .i64 0) := HSu48.out.cell 6
       have fS6 := HSu48.out.frozen 6
       have S7 : u48.cell? ⟨wr.heap.size, 7, none⟩ = some (.slice none 0 0) := HSu48.out.cell 7
       have fS7 := HSu48.out.frozen 7
       have zS := HSu48.out.lt
       have nS : ¬ wr.heap.size = w.heap.size := by have := zz0; omega
       have nS2 : ¬ w.heap.size = wr.heap.size := by have := zz0; omega
       go_simp
       refine hK.out _ _ ?hqhotaaz (fun hHeld => ?rqhotaaz)
       case hqhotaaz => ((try dsimp only); go_keep)
       clear hK Kq
       try simp only [Act.put, List.setIfInBounds_toArray, List.set_cons_zero, List.set_cons_succ]
       refine wpAnyH_done (by kernel_rfl) ?_ _
       refine NoPanic.normal ?_
       go_wp2_with fail
       go_meet
       generalize hwF : World.setCell _ _ _ = wF
       obtain ⟨hR, kF⟩ := set8 HSu48.out (.int .i64 (m : Int)) (.int .i64 0) (.slice (some ⟨gT, 0, none⟩) rs.length rs.length) (.slice (some ⟨gL, 0, none⟩) rs.length rs.length) (.int .i64 gt) (.int .i64 (n : Int)) (.int .i64 gs) (.slice (some ⟨br, orr, none⟩) rs.length c)
       rw [hwF] at hR kF
       have zF := kF.size
       exact ⟨gT, gL, wr.heap.size, rfl, hR, HTu48.out.kept kF (by omega), HLu48.out.kept kF (by omega), by omega, by omega, by omega, by omega, by omega, by omega, (HBu48.out).trans (kF.to_below (B := wo.heap.size) (fun b hb => by omega) HBu48.out.size)⟩
     case twoqh =>
      go_simp
      obtain ⟨u49, hw⟩ : ∃ q : World, q = u41.alloc (.cells #[.int .i64 (-1)] 3) := ⟨_, rfl⟩
      rw [← hw]
      have HPu49 : Hid (Blk' u49 u41.heap.size 3 #[.int .i64 (-1)]) := Lib.hid (by rw [hw]; exact Blk'.new _ _ _)
      have hb : Below u41.heap.size u41 u49 := by rw [hw]; exact (Below.refl _ _).alloc (Nat.le_refl _) _
      have HBu49 := Lib.hid (bthen HBu41.out hb HBu41.out.size)
      have zu49 : u41.heap.size ≤ u49.heap.size := hb.size
      have HGu49 := Lib.hid (HGu41.out.below hb HGu41.out.lt)
      have HSu49 := Lib.hid (HSu41.out.below hb HSu41.out.lt)
      clear hb HGu41 HSu41
      have yu49 : u41.heap.size < u49.heap.size := by rw [hw]; simp
      clear hw
      have G0 : u49.cell? ⟨w.heap.size, 0, none⟩ = some (.int .i64 gt) := HGu49.out.cell 0
      have G1 : u49.cell? ⟨w.heap.size, 1, none⟩ = some (.int .i64 (n : Int)) := HGu49.out.cell 1
      have G2 : u49.cell? ⟨w.heap.size, 2, none⟩ = some (.int .i64 gs) := HGu49.out.cell 2
      have G3 : u49.cell? ⟨w.heap.size, 3, none⟩ = some (.slice (some ⟨br, orr, none⟩) rs.length c) := HGu49.out.cell 3
      have zG := HGu49.out.lt
      refine hK.out _ _ ?hqht (fun hHeld => ?rqht)
      case hqht => ((try dsimp only); go_keep)
      clear hK Kq G0 G1 G2 G3 zG
      try simp only [Act.put, List.setIfInBounds_toArray, List.set_cons_zero, List.set_cons_succ]
      refine take_call (i := 1) rfl (by kernel_rfl) (by rfl) (fun Kq hK => ?_)
      go_simp
      obtain ⟨u50, hw⟩ : ∃ q : World, q = u49.alloc (.cells #[.int .i64 (-1)] 3) := ⟨_, rfl⟩
      rw [← hw]
      have HQu50 : Hid (Blk' u50 u49.heap.size 3 #[.int .i64 (-1)]) := Lib.hid (by rw [hw]; exact Blk'.new _ _ _)
      have hb : Below u49.heap.size u49 u50 := by rw [hw]; exact (Below.refl _ _).alloc (Nat.le_refl _) _
      have HBu50 := Lib.hid (bthen HBu49.out hb HBu49.out.size)
      have zu50 : u49.heap.size ≤ u50.heap.size := hb.size
      have HGu50 := Lib.hid (HGu49.out.below hb HGu49.out.lt)
      have HSu50 := Lib.hid (HSu49.out.below hb HSu49.out.lt)
      have HPu50 := Lib.hid (HPu49.out.below hb HPu49.out.lt)
      clear hb HGu49 HSu49 HPu49
      have yu50 : u49.heap.size < u50.heap.size := by rw [hw]; simp
      clear hw
      have G0 : u50.cell? ⟨w.heap.size, 0, none⟩ = some (.int .i64 gt) := HGu50.out.cell 0
      have G1 : u50.cell? ⟨w.heap.size, 1, none⟩ = some (.int .i64 (n : Int)) := HGu50.out.cell 1
      have G2 : u50.cell? ⟨w.heap.size, 2, none⟩ = some (.int .i64 gs) := HGu50.out.cell 2
      have G3 : u50.cell? ⟨w.heap.size, 3, none⟩ = some (.slice (some ⟨br, orr, none⟩) rs.length c) := HGu50.out.cell 3
      have zG := HGu50.out.lt
      refine hK.out _ _ ?hqhta (fun hHeld => ?rqhta)
      case hqhta => ((try dsimp only); go_keep)
      clear hK Kq G0 G1 G2 G3 zG
      try simp only [Act.put, List.setIfInBounds_toArray, List.set_cons_zero, List.set_cons_succ]
      refine take_call (i := 5) rfl (by kernel_rfl) (by rfl) (fun Kq hK => ?_)
      go_simp
      go_at_call 64
      refine (repeat_any (u49.heap.size) 0 rs.length u50 (by omega) hrl (HQu50.out.cell 0)).mono ?_
      rintro e u51 ⟨gT, rfl, hg, hgl, hb0⟩
      have HTu51 := Lib.hid hg
      have yu51 : gT < u51.heap.size := hg.lt
      have hb : Below u50.heap.size u50 u51 := hb0
      have HBu51 := Lib.hid (bthen HBu50.out hb HBu50.out.size)
      have zu51 : u50.heap.size ≤ u51.heap.size := hb.size
      have HGu51 := Lib.hid (HGu50.out.below hb HGu50.out.lt)
      have HSu51 := Lib.hid (HSu50.out.below hb HSu50.out.lt)
      have HPu51 := Lib.hid (HPu50.out.below hb HPu50.out.lt)
      have HQu51 := Lib.hid (HQu50.out.below hb HQu50.out.lt)
      clear hb HGu50 HSu50 HPu50 HQu50
      have xu51 : u50.heap.size ≤ gT := hgl
      clear hg hb0 hgl
      have G0 : u51.cell? ⟨w.heap.size, 0, none⟩ = some (.int .i64 gt) := HGu51.out.cell 0
      have G1 : u51.cell? ⟨w.heap.size, 1, none⟩ = some (.int .i64 (n : Int)) := HGu51.out.cell 1
      have G2 : u51.cell? ⟨w.heap.size, 2, none⟩ = some (.int .i64 gs) := HGu51.out.cell 2
      have G3 : u51.cell? ⟨w.heap.size, 3, none⟩ = some (.slice (some ⟨br, orr, none⟩) rs.length c) := HGu51.out.cell 3
      have zG := HGu51.out.lt
      refine hK.out _ _ ?hqhtaa (fun hHeld => ?rqhtaa)
      case hqhtaa => ((try dsimp only); go_keep)
      clear hK Kq G0 G1 G2 G3 zG
      try simp only [Act.put, List.setIfInBounds_toArray, List.set_cons_zero, List.set_cons_succ]
      refine take_call (i := 10) rfl (by kernel_rfl) (by rfl) (fun Kq hK => ?_)
      go_simp
      go_at_call 64
      refine (repeat_any (u41.heap.size) 0 rs.length u51 (by omega) hrl (HPu51.out.cell 0)).mono ?_
      rintro e u52 ⟨gL, rfl, hg, hgl, hb0⟩
      have HLu52 := Lib.hid hg
      have yu52 : gL < u52.heap.size := hg.lt
      have hb : Below u51.heap.size u51 u52 := hb0
      have HBu52 := Lib.hid (bthen HBu51.out hb HBu51.out.size)
      have zu52 : u51.heap.size ≤ u52.heap.size := hb.size
      have HGu52 := Lib.hid (HGu51.out.below hb HGu51.out.lt)
      have HSu52 := Lib.hid (HSu51.out.below hb HSu51.out.lt)
      have HPu52 := Lib.hid (HPu51.out.below hb HPu51.out.lt)
      have HQu52 := Lib.hid (HQu51.out.below hb HQu51.out.lt)
      have HTu52 := Lib.hid (HTu51.out.below hb HTu51.out.lt)
      clear hb HGu51 HSu51 HPu51 HQu51 HTu51
      have xu52 : u51.heap.size ≤ gL := hgl
      clear hg hb0 hgl
      have G0 : u52.cell? ⟨w.heap.size, 0, none⟩ = some (.int .i64 gt) := HGu52.out.cell 0
      have G1 : u52.cell? ⟨w.heap.size, 1, none⟩ = some (.int .i64 (n : Int)) := HGu52.out.cell 1
      have G2 : u52.cell? ⟨w.heap.size, 2, none⟩ = some (.int .i64 gs) := HGu52.out.cell 2
      have G3 : u52.cell? ⟨w.heap.size, 3, none⟩ = some (.slice (some ⟨br, orr, none⟩) rs.length c) := HGu52.out.cell 3
      have zG := HGu52.out.lt
      refine hK.out _ _ ?hqhtaaa (fun hHeld => ?rqhtaaa)
      case hqhtaaa => ((try dsimp only); go_keep)
      clear hK Kq G0 G1 G2 G3 zG
      try simp only [Act.put, List.setIfInBounds_toArray, List.set_cons_zero, List.set_cons_succ]
      refine take_run (i := 12) (v := ?vqhtaaab12) rfl (by kernel_rfl) (by kernel_rfl) (by kernel_rfl) (fun _ _ _ h => h) (by rfl) ?yqhtaaab12 (by assumption) ?rqhtaaab12
      case yqhtaaab12 => (intro w hSw; (try dsimp only at hSw); go_simp; try with_reducible rfl)
      try simp only [Act.put, List.setIfInBounds_toArray, List.set_cons_zero, List.set_cons_succ]
      refine take_call (i := 14) rfl (by kernel_rfl) (by rfl) (fun Kq hK => ?_)
      have G0 : u52.cell? ⟨w.heap.size, 0, none⟩ = some (.int .i64 gt) := HGu52.out.cell 0
      have G1 : u52.cell? ⟨w.heap.size, 1, none⟩ = some (.int .i64 (n : Int)) := HGu52.out.cell 1
      have G2 : u52.cell? ⟨w.heap.size, 2, none⟩ = some (.int .i64 gs) := HGu52.out.cell 2
      have G3 : u52.cell? ⟨w.heap.size, 3, none⟩ = some (.slice (some ⟨br, orr, none⟩) rs.length c) := HGu52.out.cell 3
      have zG := HGu52.out.lt
      have S0 : u52.cell? ⟨wr.heap.size, 0, none⟩ = some (.int .i64 0) := HSu52.out.cell 0
      have fS0 := HSu52.out.frozen 0
      have S1 : u52.cell? ⟨wr.heap.size, 1, none⟩ = some (.int .i64 0) := HSu52.out.cell 1
      have fS1 := HSu52.out.frozen 1
      have S2 : u52.cell? ⟨wr.heap.size, 2, none⟩ = some (.slice none 0 0) := HSu52.out.cell 2
      have fS2 := HSu52.out.frozen 2
      have S3 : u52.cell? ⟨wr.heap.size, 3, none⟩ = some (.slice none 0 0) := HSu52.out.cell 3
      have fS3 := HSu52.out.frozen 3
      have S4 : u52.cell? ⟨wr.heap.size, 4, none⟩ = some (.int .i64 0) := HSu52.out.cell 4
      have fS4 := HSu52.out.frozen 4
      have S5 : u52.cell? ⟨wr.heap.size, 5, none⟩ = some (.int .i64 0) := HSu52.out.cell 5
      have fS5 := HSu52.out.frozen 5
      have S6 : u52.cell? ⟨wr.heap.size, 6, none⟩ = some (.int .i64 0) := HSu52.out.cell 6
      have fS6 := HSu52.out.frozen 6
      have S7 : u52.cell? ⟨wr.heap.size, 7, none⟩ = some (.slice none 0 0) := HSu52.out.cell 7
      have fS7 := HSu52.out.frozen 7
      have zS := HSu52.out.lt
      have nS : ¬ wr.heap.size = w.heap.size := by have := zz0; omega
      have nS2 : ¬ w.heap.size = wr.heap.size := by have := zz0; omega
      go_simp
      refine hK.out _ _ ?hqhtaaaz (fun hHeld => ?rqhtaaaz)
      case hqhtaaaz => ((try dsimp only); go_keep)
      clear hK Kq
      try simp only [Act.put, List.setIfInBounds_toArray, List.set_cons_zero, List.set_cons_succ]
      refine wpAnyH_done (by kernel_rfl) ?_ _
      refine NoPanic.normal ?_
      go_wp2_with fail
      go_meet
      generalize hwF : World.setCell _ _ _ = wF
      obtain ⟨hR, kF⟩ := set8 HSu52.out (.int .i64 (m : Int)) (.int .i64 0) (.slice (some ⟨gT, 0, none⟩) rs.length rs.length) (.slice (some ⟨gL, 0, none⟩) rs.length rs.length) (.int .i64 gt) (.int .i64 (n : Int)) (.int .i64 gs) (.slice (some ⟨br, orr, none⟩) rs.length c)
      rw [hwF] at hR kF
      have zF := kF.size
      exact ⟨gT, gL, wr.heap.size, rfl, hR, HTu52.out.kept kF (by omega), HLu52.out.kept kF (by omega), by omega, by omega, by omega, by omega, by omega, by omega, (HBu52.out).trans (kF.to_below (B := wo.heap.size) (fun b hb => by omega) HBu52.out.size)⟩
   case rest =>
    obtain ⟨gT, gL, SB, rfl, hS7, hT7, hL7, hgT, hgL, hgS, hn1, hn2, hn3, hb7⟩ := hcut
    obtain ⟨w7, hw7⟩ : ∃ q : World, q = wc := ⟨_, rfl⟩
    subst hw7
    have HG7 := Lib.hid (HGo.out.below hb7 HGo.out.lt)
    obtain ⟨w8, hw8⟩ : ∃ q : World, q = w7.alloc (.cells #[.int .i64 gt, .int .i64 ((n : Int) + 1), .int .i64 gs, .slice none 0 0] 25) := ⟨_, rfl⟩
    have HW8 := Lib.hid hw8
    have hb8 : Below wo.heap.size wo w8 := by rw [hw8]; exact hb7.alloc hb7.size _
    have HO8 : Hid (Blk' w8 w7.heap.size 25 #[.int .i64 gt, .int .i64 ((n : Int) + 1), .int .i64 gs, .slice none 0 0]) := Lib.hid (by rw [hw8]; exact Blk'.new _ _ _)
    have HS8 : Hid (Blk' w8 SB 70 #[.int .i64 (m : Int), .int .i64 0, .slice (some ⟨gT, 0, none⟩) rs.length rs.length, .slice (some ⟨gL, 0, none⟩) rs.length rs.length, .int .i64 gt, .int .i64 (n : Int), .int .i64 gs, .slice (some ⟨br, orr, none⟩) rs.length c]) := Lib.hid (by rw [hw8]; exact hS7.alloc _)
    have HT8 : Hid (Blk' w8 gT 3 (icells (List.replicate rs.length (-1)))) := Lib.hid (by rw [hw8]; exact hT7.alloc _)
    have HL8 : Hid (Blk' w8 gL 3 (icells (List.replicate rs.length (-1)))) := Lib.hid (by rw [hw8]; exact hL7.alloc _)
    have HG8 := Lib.hid (HGo.out.below hb8 HGo.out.lt)
    have HA8 := Lib.hid (HAo.out.below hb8)
    have HLl8 := Lib.hid (HLo.out.below hb8)
    have hbo := bthen HBd.out HBo.out HBd.out.size
    have HB8 := Lib.hid (bthen hbo hb8 hbo.size)
    have HR48 := Lib.hid (HR4d.out.below (bthen HBo.out hb8 HBo.out.size) HR4d.out.lt)
    have HR58 := Lib.hid (HR5d.out.below (bthen HBo.out hb8 HBo.out.size) HR5d.out.lt)
    obtain ⟨OB, hOB⟩ : ∃ OB, OB = w7.heap.size := ⟨_, rfl⟩
    have zO : OB < w8.heap.size := by rw [hOB]; exact HO8.out.lt
    have zz1 : wo.heap.size ≤ w7.heap.size := hb7.size
    have zT : gT < w7.heap.size := hT7.lt
    have zL : gL < w7.heap.size := hL7.lt
    have zS : SB < w7.heap.size := hS7.lt
    have zR5 : w.heap.size + 1 + 1 < wd.heap.size := HR5d.out.lt
    have zwd : wd.heap.size ≤ wo.heap.size := HBo.out.size
    rw [← hOB] at HO8
    have HZ8 : Hid (w8.heap.size = OB + 1) := Lib.hid (by rw [hw8, hOB]; simp)
    have zw7 : w7.heap.size ≤ OB := by rw [hOB]; exact Nat.le_refl _
    have hn10 : (n : Int) ≤ 10 := by have := HV.out.n10; exact this
    have g0 : w7.cell? ⟨w.heap.size, 0, none⟩ = some (.int .i64 gt) := HG7.out.cell 0
    have g1 : w7.cell? ⟨w.heap.size, 1, none⟩ = some (.int .i64 (n : Int)) := HG7.out.cell 1
    have g2 : w7.cell? ⟨w.heap.size, 2, none⟩ = some (.int .i64 gs) := HG7.out.cell 2
    have zg7 := HG7.out.lt
    clear hw8 hS7 hT7 hL7 hb7 hb8 hbo HGo HAo HLo HBo HBd HR4d HR5d HGd HAd HLd
    go_upto_region 9 with (fail)
    rw [← HW8.out, ← hOB]
    clear hOB g0 g1 g2 zg7 HG7 HW8
    have g3 : w8.cell? ⟨w.heap.size, 3, none⟩ = some (.slice (some ⟨br, orr, none⟩) rs.length c) := HG8.out.cell 3
    have zg := HG8.out.lt
    go_wp2_with fail
    clear g3 zg
    go_loopw [73] (fun i wr => NxR S ⟨gt, (n : Int), gs, rs⟩ (k0 :: l') m w w8 OB SB gT gL (some ⟨br, orr, none⟩) c i wr) (fun i _ => rs.length - (intOf i).toNat)
    case atStart => exact ⟨0, .slice none 0 0, Nat.zero_le _, rfl, Own.nil _ _ _ _, HO8.out, HS8.out, by rw [facTo_zero]; exact HT8.out, Kept.refl _ _⟩
    case round =>
     obtain ⟨wi, hwi⟩ : ∃ wi : World, wi = wr := ⟨_, rfl⟩
     subst hwi
     obtain ⟨j, v, hj, rfl, hown, hO, hSb, hT, hK⟩ := hrel
     obtain ⟨Av, cv, rfl, _⟩ := hown.form
     dsimp only at hj hO hSb hT
     have HOw := Lib.hid hown
     have HOi := Lib.hid hO
     have HSi := Lib.hid hSb
     have HTi := Lib.hid hT
     have HKi := Lib.hid hK
     have HBi : Hid (Below (w.heap.size + 1 + 1 + 1) w8 wi) := Lib.hid (hK.to_below (fun b hb => by omega) (by omega))
     have HGi := Lib.hid (HG8.out.kept hK (by omega))
     have HAi : Hid (Els wi S rs (some ⟨br, orr, none⟩)) := Lib.hid (HA8.out.kept hK (fun b hb h => by have := HS.out b hb; omega))
     have HLi : Hid (Els wi S (natsI (k0 :: l')) (some ⟨bl, ol, none⟩)) := Lib.hid (HLl8.out.kept hK (fun b hb h => by have := HS.out b hb; omega))
     have zwi : w8.heap.size ≤ wi.heap.size := hK.size
     clear hown hO hSb hT hK
     by_cases hjl : j < rs.length
     ·skip
      have hjl' : (j : Int) < (rs.length : Int) := by omega
      have hj0 : (0 : Int) ≤ (j : Int) := by omega
      obtain ⟨oN, hol⟩ : ∃ oN, oN = ((keepK (k0 :: l') j).map (facRule ⟨gt, (n : Int), gs, rs⟩ (k0 :: l') m)).length := ⟨_, rfl⟩
      have HOl : Hid (((keepK (k0 :: l') j).map (facRule ⟨gt, (n : Int), gs, rs⟩ (k0 :: l') m)).length = oN) := Lib.hid hol.symm
      have HOk : Hid ((keepK (k0 :: l') j).length = oN) := Lib.hid (by rw [hol, List.length_map])
      have hol32 : oN ≤ 32 := by have := keepK_len (k0 :: l') j; rw [hol, List.length_map]; omega
      have HOwi : Hid (Own wi S w8.heap.size 33 (.slice Av oN cv) ((keepK (k0 :: l') j).map (facRule ⟨gt, (n : Int), gs, rs⟩ (k0 :: l') m))) := Lib.hid (by rw [hol]; exact HOw.out)
      have HOBwi : Hid (Blk' wi OB 25 #[.int .i64 gt, .int .i64 ((n : Int) + 1), .int .i64 gs, .slice Av oN cv]) := Lib.hid (by rw [hol]; exact HOi.out)
      obtain ⟨hdj, hhd⟩ : ∃ hdj : Int, hdj = (if k0 < j then facHd (k0 :: l') else 0) := ⟨_, rfl⟩
      have HHd := Lib.hid hhd
      have HSBwi : Hid (Blk' wi SB 70 #[.int .i64 (m : Int), .int .i64 hdj, .slice (some ⟨gT, 0, none⟩) rs.length rs.length, .slice (some ⟨gL, 0, none⟩) rs.length rs.length, .int .i64 gt, .int .i64 (n : Int), .int .i64 gs, .slice (some ⟨br, orr, none⟩) rs.length c]) := Lib.hid (by rw [hhd]; exact HSi.out)
      have HTwi := HTi
      have HGwi := HGi
      have HKwi := HKi
      have ERwi := HAi
      have ELwi := HLi
      clear hol hhd HOw HOi HSi HTi HGi HKi HAi HLi
      obtain ⟨q, hq⟩ := get_some hjl
      have hqr : q.right.length ≤ 4 := (HV.out.rules q (List.mem_of_getElem? hq)).2.2.1
      obtain ⟨_, _, Aq, cq, e2, _, hbr, hqi, hrc, hcr, hEq, hr0, hr1⟩ := ERwi.out.rule hq
      injection e2 with e2
      injection e2 with e3 e4 _
      subst e3; subst e4
      obtain ⟨ql, qr⟩ := q
      dsimp only at *
      have HQ := Lib.hid hq
      have HQi := Lib.hid hqi
      have HRc := Lib.hid (And.intro hrc hcr)
      have EQwi := Lib.hid hEq
      clear hq hqi hEq
      obtain ⟨w9, hww9⟩ : ∃ q : World, q = wi.alloc (.cells #[.int .i64 ql, .slice Aq qr.length cq] 33) := ⟨_, rfl⟩
      have HWw9 := Lib.hid hww9
      have hbw9 : Below wi.heap.size wi w9 := by rw [hww9]; exact (Below.refl _ _).alloc (Nat.le_refl _) _
      have HXw9 : Hid (Blk' w9 wi.heap.size 33 #[.int .i64 ql, .slice Aq qr.length cq]) := Lib.hid (by rw [hww9]; exact Blk'.new _ _ _)
      have HOBw9 := Lib.hid (HOBwi.out.below hbw9 HOBwi.out.lt)
      have HSBw9 := Lib.hid (HSBwi.out.below hbw9 HSBwi.out.lt)
      have HTw9 := Lib.hid (HTwi.out.below hbw9 HTwi.out.lt)
      have HGw9 := Lib.hid (HGwi.out.below hbw9 HGwi.out.lt)
      have HOw9 := Lib.hid (HOwi.out.below hbw9 (Nat.le_refl _))
      have ERw9 := Lib.hid (ERwi.out.below hbw9)
      have ELw9 := Lib.hid (ELwi.out.below hbw9)
      have EQw9 := Lib.hid (EQwi.out.below hbw9)
      have HKw9 := Lib.hid (HKwi.out.below hbw9)
      have zzw9 : wi.heap.size ≤ w9.heap.size := hbw9.size
      clear HOBwi HSBwi HTwi HGwi HOwi ERwi ELwi EQwi HKwi
      clear hww9 hbw9
      obtain ⟨_, _, e2, _, hbl, _, hl0⟩ := ELw9.out.int (natsI_get (l := k0 :: l') (p := 0) rfl)
      injection e2 with e2
      injection e2 with e3 e4 _
      subst e3; subst e4
      have hl0 : w9.cell? ⟨bl, ol, none⟩ = some (.int .i64 (k0 : Int)) := by simpa using hl0
      go_upto_region 12 with (fail)
      rw [← HWw9.out]
      clear hr0 hr1 hbr HWw9
      by_cases hjk : j = k0
      ·have d0 : ((j : Int) == (k0 : Int)) = true := by simp [hjk]
       have d1 : (j == k0) = true := by simp [hjk]
       have d2 : decide (j = k0) = true := by simp [hjk]
       have d3 : decide ((j : Int) = (k0 : Int)) = true := by simp [hjk]
       have HJk := Lib.hid hjk
       clear hjk
       have zO8 := HOBw9.out.lt
       have zS8 := HSBw9.out.lt
       have zT8 := HTw9.out.lt
       have zG8 := HGw9.out.lt
       have zX8 := HXw9.out.lt
       have cOB0 : w9.cell? ⟨OB, 0, none⟩ = some (.int .i64 gt) := HOBw9.out.cell 0
       have cOB1 : w9.cell? ⟨OB, 1, none⟩ = some (.int .i64 ((n : Int) + 1)) := HOBw9.out.cell 1
       have cOB2 : w9.cell? ⟨OB, 2, none⟩ = some (.int .i64 gs) := HOBw9.out.cell 2
       have cOB3 : w9.cell? ⟨OB, 3, none⟩ = some (.slice Av oN cv) := HOBw9.out.cell 3
       have zOB := HOBw9.out.lt
       have cSB0 : w9.cell? ⟨SB, 0, none⟩ = some (.int .i64 (m : Int)) := HSBw9.out.cell 0
       have cSB1 : w9.cell? ⟨SB, 1, none⟩ = some (.int .i64 hdj) := HSBw9.out.cell 1
       have cSB2 : w9.cell? ⟨SB, 2, none⟩ = some (.slice (some ⟨gT, 0, none⟩) rs.length rs.length) := HSBw9.out.cell 2
       have cSB3 : w9.cell? ⟨SB, 3, none⟩ = some (.slice (some ⟨gL, 0, none⟩) rs.length rs.length) := HSBw9.out.cell 3
       have cSB4 : w9.cell? ⟨SB, 4, none⟩ = some (.int .i64 gt) := HSBw9.out.cell 4
       have cSB5 : w9.cell? ⟨SB, 5, none⟩ = some (.int .i64 (n : Int)) := HSBw9.out.cell 5
       have cSB6 : w9.cell? ⟨SB, 6, none⟩ = some (.int .i64 gs) := HSBw9.out.cell 6
       have cSB7 : w9.cell? ⟨SB, 7, none⟩ = some (.slice (some ⟨br, orr, none⟩) rs.length c) := HSBw9.out.cell 7
       have fSB0 := HSBw9.out.frozen 0
       have fSB1 := HSBw9.out.frozen 1
       have fSB2 := HSBw9.out.frozen 2
       have fSB3 := HSBw9.out.frozen 3
       have fSB4 := HSBw9.out.frozen 4
       have fSB5 := HSBw9.out.frozen 5
       have fSB6 := HSBw9.out.frozen 6
       have fSB7 := HSBw9.out.frozen 7
       have zSB := HSBw9.out.lt
       obtain ⟨w10, hww10⟩ : ∃ q : World, q = w9.setCell ⟨SB, 1, none⟩ (.int .i64 (oN : Int)) := ⟨_, rfl⟩
       have HWw10 := Lib.hid hww10
       have hkw10 : Kept (fun b => b = SB) w9 w10 := by rw [hww10]; exact (Kept.refl (fun b => b = SB) w9).setCell (p := ⟨SB, 1, none⟩) (.inl rfl) _
       have HOBw10 := Lib.hid (HOBw9.out.kept hkw10 (by omega))
       have HSBw10 : Hid (Blk' w10 SB 70 #[.int .i64 (m : Int), .int .i64 (oN : Int), .slice (some ⟨gT, 0, none⟩) rs.length rs.length, .slice (some ⟨gL, 0, none⟩) rs.length rs.length, .int .i64 gt, .int .i64 (n : Int), .int .i64 gs, .slice (some ⟨br, orr, none⟩) rs.length c]) := Lib.hid (by rw [hww10]; exact HSBw9.out.set_ 1 _)
       have HTw10 := Lib.hid (HTw9.out.kept hkw10 (by omega))
       have HGw10 := Lib.hid (HGw9.out.kept hkw10 (by omega))
       have HXw10 := Lib.hid (HXw9.out.kept hkw10 (by omega))
       have HOw10 := Lib.hid (HOw9.out.kept hkw10 (fun b hb h => by rcases h with h | h; (have := HS.out b h; omega); omega))
       have ERw10 := Lib.hid (ERw9.out.kept hkw10 (fun b hb h => by have := HS.out b hb; omega))
       have ELw10 := Lib.hid (ELw9.out.kept hkw10 (fun b hb h => by have := HS.out b hb; omega))
       have EQw10 := Lib.hid (EQw9.out.kept hkw10 (fun b hb h => by have := HS.out b hb; omega))
       have HKw10 := Lib.hid (HKw9.out.later hkw10 (fun b hb => by (try subst hb); first | exact .inl (by simp) | exact .inr (by omega)))
       have zzw10 : w9.heap.size ≤ w10.heap.size := hkw10.size
       clear hww10 hkw10 HOBw9 HSBw9 HTw9 HGw9 HXw9 HOw9 ERw9 ELw9 EQw9 HKw9
       go_upto_region 14 with (fail)
       rw [← HWw10.out]
       clear cOB0 cOB1 cOB2 cOB3 zOB cSB0 cSB1 cSB2 cSB3 cSB4 cSB5 cSB6 cSB7 fSB0 fSB1 fSB2 fSB3 fSB4 fSB5 fSB6 fSB7 zSB
       clear d0 d1 d2 d3 hl0 hbl HWw10
       have cX0 : w10.cell? ⟨wi.heap.size, 0, none⟩ = some (.int .i64 ql) := HXw10.out.cell 0
       have cX1 : w10.cell? ⟨wi.heap.size, 1, none⟩ = some (.slice Aq qr.length cq) := HXw10.out.cell 1
       have zX := HXw10.out.lt
       have cG0 : w10.cell? ⟨w.heap.size, 0, none⟩ = some (.int .i64 gt) := HGw10.out.cell 0
       have cG1 : w10.cell? ⟨w.heap.size, 1, none⟩ = some (.int .i64 (n : Int)) := HGw10.out.cell 1
       have cG2 : w10.cell? ⟨w.heap.size, 2, none⟩ = some (.int .i64 gs) := HGw10.out.cell 2
       have cG3 : w10.cell? ⟨w.heap.size, 3, none⟩ = some (.slice (some ⟨br, orr, none⟩) rs.length c) := HGw10.out.cell 3
       have zG := HGw10.out.lt
       have hmr : m ≤ qr.length := by
        have h := cmP_le ⟨gt, (n : Int), gs, rs⟩ (k0 :: l') (k0 :: l').length
        rw [← HMf.out] at h
        have e : (rulN ⟨gt, (n : Int), gs, rs⟩ ((k0 :: l').headD 0)).right = qr := by
         show (rulN ⟨gt, (n : Int), gs, rs⟩ k0).right = qr
         rw [← HJk.out, rulN_of HQ.out]
        rw [e] at h
        exact h
       have hm0 : (0 : Int) ≤ (m : Int) := by omega
       have hm1 : (m : Int) ≤ (cq : Int) := by have := HRc.out.1; omega
       have hm2 : (m : Int) ≤ (qr.length : Int) := by omega
       have HTm : Hid ((qr.take m).length = m) := Lib.hid (by rw [List.length_take]; omega)
       refine wp_region_noPanic ?_
       refine wp_region_held_drew (S := (fun w' => w'.cell? ⟨wi.heap.size, 0, none⟩ = some (.int .i64 ql) ∧ w'.cell? ⟨wi.heap.size, 1, none⟩ = some (.slice Aq qr.length cq) ∧ w'.cell? ⟨w.heap.size, 1, none⟩ = some (.int .i64 (n : Int)))) (by kernel_rfl) ?hc (fun hHeld => ?bc)
       case hc => ((try dsimp only); go_keep)
       clear cX0 cX1 zX cG0 cG1 cG2 cG3 zG
       obtain ⟨wd1, hwd1⟩ : ∃ q : World, q = w10.drew := ⟨_, rfl⟩
       rw [← hwd1] at hHeld ⊢
       have hbd : Below w10.heap.size w10 wd1 := by rw [hwd1]; exact (Below.refl _ _).drew
       clear hwd1
       have HOBwd1 := Lib.hid (HOBw10.out.below hbd HOBw10.out.lt)
       have HSBwd1 := Lib.hid (HSBw10.out.below hbd HSBw10.out.lt)
       have HTwd1 := Lib.hid (HTw10.out.below hbd HTw10.out.lt)
       have HGwd1 := Lib.hid (HGw10.out.below hbd HGw10.out.lt)
       have HXwd1 := Lib.hid (HXw10.out.below hbd HXw10.out.lt)
       have HOwd1 := Lib.hid (HOw10.out.below hbd (Nat.le_refl _))
       have ERwd1 := Lib.hid (ERw10.out.below hbd)
       have ELwd1 := Lib.hid (ELw10.out.below hbd)
       have EQwd1 := Lib.hid (EQw10.out.below hbd)
       have HKwd1 := Lib.hid (HKw10.out.below hbd)
       have zzwd1 : w10.heap.size ≤ wd1.heap.size := hbd.size
       clear HOBw10 HSBw10 HTw10 HGw10 HXw10 HOw10 ERw10 ELw10 EQw10 HKw10
       clear hbd
       refine take_run (i := 0) (v := ?vc0) rfl (by kernel_rfl) (by kernel_rfl) (by kernel_rfl) (fun _ _ _ h => h) (by rfl) ?yc0 (by assumption) ?rc0
       case yc0 => (intro w hSw; (try dsimp only at hSw); go_simp; try with_reducible rfl)
       try simp only [Act.put, List.setIfInBounds_toArray, List.set_cons_zero, List.set_cons_succ]
       refine take_run (i := 1) (v := ?vc1) rfl (by kernel_rfl) (by kernel_rfl) (by kernel_rfl) (fun _ _ _ h => h) (by rfl) ?yc1 (by assumption) ?rc1
       case yc1 => (intro w hSw; (try dsimp only at hSw); go_simp; try with_reducible rfl)
       try simp only [Act.put, List.setIfInBounds_toArray, List.set_cons_zero, List.set_cons_succ]
       refine take_run (i := 2) (v := ?vc2) rfl (by kernel_rfl) (by kernel_rfl) (by kernel_rfl) (fun _ _ _ h => h) (by rfl) ?yc2 (by assumption) ?rc2
       case yc2 => (intro w hSw; (try dsimp only at hSw); go_simp; try with_reducible rfl)
       try simp only [Act.put, List.setIfInBounds_toArray, List.set_cons_zero, List.set_cons_succ]
       refine take_run (i := 3) (v := ?vc3) rfl (by kernel_rfl) (by kernel_rfl) (by kernel_rfl) (fun _ _ _ h => h) (by rfl) ?yc3 (by assumption) ?rc3
       case yc3 => (intro w hSw; (try dsimp only at hSw); go_simp; try with_reducible rfl)
       try simp only [Act.put, List.setIfInBounds_toArray, List.set_cons_zero, List.set_cons_succ]
       refine take_run (i := 5) (v := ?vc5) rfl (by kernel_rfl) (by kernel_rfl) (by kernel_rfl) (fun _ _ _ h => h) (by rfl) ?yc5 (by assumption) ?rc5
       case yc5 => (intro w hSw; (try dsimp only at hSw); go_simp; try with_reducible rfl)
       try simp only [Act.put, List.setIfInBounds_toArray, List.set_cons_zero, List.set_cons_succ]
       refine take_run (i := 6) (v := ?vc6) rfl (by kernel_rfl) (by kernel_rfl) (by kernel_rfl) (fun _ _ _ h => h) (by rfl) ?yc6 (by assumption) ?rc6
       case yc6 => (intro w hSw; (try dsimp only at hSw); go_simp; try with_reducible rfl)
       try simp only [Act.put, List.setIfInBounds_toArray, List.set_cons_zero, List.set_cons_succ]
       refine take_call (i := 4) rfl (by kernel_rfl) (by rfl) (fun Kq hK => ?_)
       go_simp
       go_at_call 43
       refine (cloneSymO_any (qr.take m) Aq cq m S wd1 HTm.out.symm (by rw [HTm.out]; omega) (EQwd1.out.takeS m) (fun b hb => by have := HS.out b hb; omega)).mono ?_
       rintro e w11 ⟨A2, c2, rfl, hc21, hc22, hO2, hb11⟩
       rw [HTm.out] at hO2 ⊢
       have HO2 := Lib.hid (And.intro hO2 (And.intro hc21 hc22))
       have HB11 := Lib.hid hb11
       clear hO2 hc21 hc22 hb11
       have kX := HXwd1.out.below HB11.out HXwd1.out.lt
       have cX0 := kX.cell 0
       have cX1 := kX.cell 1
       have zX := kX.lt
       have kG := HGwd1.out.below HB11.out HGwd1.out.lt
       have cG0 := kG.cell 0
       have cG1 := kG.cell 1
       have cG2 := kG.cell 2
       have cG3 := kG.cell 3
       have zG := kG.lt
       refine hK.out _ _ ?hc4 (fun hHeld => ?rc4)
       case hc4 => ((try dsimp only); exact ⟨kX.cell 0, kX.cell 1, kG.cell 1⟩)
       clear hK Kq kX cX0 cX1 zX kG cG0 cG1 cG2 cG3 zG
       try simp only [Act.put, List.setIfInBounds_toArray, List.set_cons_zero, List.set_cons_succ]
       refine take_call (i := 7) rfl (by kernel_rfl) (by rfl) (fun Kq hK => ?_)
       go_simp
       go_at_call 39
       refine (n_any (n : Int) w11).mono ?_
       rintro e w12 ⟨rfl, hb12⟩
       have HO3 := Lib.hid (HO2.out.1.below hb12 (Nat.le_refl _))
       have HB12 := Lib.hid (bthen HB11.out hb12 HB11.out.size)
       clear hb12
       have kX := HXwd1.out.below HB12.out HXwd1.out.lt
       have cX0 := kX.cell 0
       have cX1 := kX.cell 1
       have zX := kX.lt
       have kG := HGwd1.out.below HB12.out HGwd1.out.lt
       have cG0 := kG.cell 0
       have cG1 := kG.cell 1
       have cG2 := kG.cell 2
       have cG3 := kG.cell 3
       have zG := kG.lt
       refine hK.out _ _ ?hc7 (fun hHeld => ?rc7)
       case hc7 => ((try dsimp only); exact ⟨kX.cell 0, kX.cell 1, kG.cell 1⟩)
       clear hK Kq kX cX0 cX1 zX kG cG0 cG1 cG2 cG3 zG
       try simp only [Act.put, List.setIfInBounds_toArray, List.set_cons_zero, List.set_cons_succ]
       refine take_call (i := 8) rfl (by kernel_rfl) (by rfl) (fun Kq hK => ?_)
       go_simp
       obtain ⟨w13, hw13⟩ : ∃ q : World, q = w12.alloc (.cells #[.bool false, .int .i64 (n : Int)] 35) := ⟨_, rfl⟩
       rw [← hw13]
       have HO4 : Hid (Own w13 (fun b => b < wd1.heap.size) wd1.heap.size 35 (.slice A2 m c2) (qr.take m)) := Lib.hid (by rw [hw13]; exact HO3.out.alloc _)
       have HY : Hid (Blk' w13 w12.heap.size 35 #[.bool false, .int .i64 (n : Int)]) := Lib.hid (by rw [hw13]; exact Blk'.new _ _ _)
       have HB13 : Hid (Below wd1.heap.size wd1 w13) := Lib.hid (by rw [hw13]; exact HB12.out.alloc HB12.out.size _)
       clear hw13
       have kX := HXwd1.out.below HB13.out HXwd1.out.lt
       have cX0 := kX.cell 0
       have cX1 := kX.cell 1
       have zX := kX.lt
       have kG := HGwd1.out.below HB13.out HGwd1.out.lt
       have cG0 := kG.cell 0
       have cG1 := kG.cell 1
       have cG2 := kG.cell 2
       have cG3 := kG.cell 3
       have zG := kG.lt
       refine hK.out _ _ ?hc8 (fun hHeld => ?rc8)
       case hc8 => ((try dsimp only); exact ⟨kX.cell 0, kX.cell 1, kG.cell 1⟩)
       clear hK Kq kX cX0 cX1 zX kG cG0 cG1 cG2 cG3 zG
       try simp only [Act.put, List.setIfInBounds_toArray, List.set_cons_zero, List.set_cons_succ]
       refine take_call (i := 9) rfl (by kernel_rfl) (by rfl) (fun Kq hK => ?_)
       have HAt : Hid (At w13 w12.heap.size 0 [.bool false, .int .i64 (n : Int)]) := Lib.hid (fun j u hu => by rw [Nat.zero_add, HY.out.cell]; simpa using hu)
       have HIn : Hid (I64 (n : Int)) := Lib.hid ⟨by omega, by omega⟩
       refine wp_own1 _ _ _ elemSym rfl rfl HO4.out (⟨false, (n : Int)⟩ : Sym) [.bool false, .int .i64 (n : Int)] rfl HAt.out ⟨rfl, HIn.out⟩ (by rw [HTm.out]; omega) (by rw [HTm.out]; omega) HB13.out.size ?_
       intro v7 w14 hown7 hg7 hat7
       obtain ⟨A3, c3, hv7, hc31, hc32, hor⟩ := hown7.form
       rw [snoc_len, HTm.out] at hv7 hc31
       obtain ⟨g7, eA7, hg70, hg71⟩ := hor.resolve_left (by simp)
       subst eA7
       subst hv7
       have hb14 : Below wd1.heap.size wd1 w14 := HB13.out.grown hg7 HB13.out.size (fun k hk => (HO4.out.block k hk).1)
       have HR2 : Hid ((qr.take m ++ [(⟨false, (n : Int)⟩ : Sym)]).length ≤ c3 ∧ c3 ≤ 9223372036854775807 ∧ wd1.heap.size ≤ g7 ∧ g7 < w14.heap.size ∧ Els w14 (fun b => b = g7) (qr.take m ++ [(⟨false, (n : Int)⟩ : Sym)]) (some ⟨g7, 0, none⟩)) := Lib.hid ⟨by rw [snoc_len, HTm.out]; exact hc31, hc32, hg70, hg71, Els.symFlatF (hown7.vl.els.2.2.2) rfl⟩
       have HRl : Hid ((qr.take m ++ [(⟨false, (n : Int)⟩ : Sym)]).length = m + 1) := Lib.hid (by rw [snoc_len, HTm.out])
       have HB14 := Lib.hid hb14
       clear hown7 hg7 hat7 hc31 hc32 hor hg70 hg71 hb14
       have kX := HXwd1.out.below HB14.out HXwd1.out.lt
       have cX0 := kX.cell 0
       have cX1 := kX.cell 1
       have zX := kX.lt
       have kG := HGwd1.out.below HB14.out HGwd1.out.lt
       have cG0 := kG.cell 0
       have cG1 := kG.cell 1
       have cG2 := kG.cell 2
       have cG3 := kG.cell 3
       have zG := kG.lt
       refine hK.out _ _ ?hc9 (fun hHeld => ?rc9)
       case hc9 => ((try dsimp only); exact ⟨kX.cell 0, kX.cell 1, kG.cell 1⟩)
       clear hK Kq kX cX0 cX1 zX kG cG0 cG1 cG2 cG3 zG
       try simp only [Act.put, List.setIfInBounds_toArray, List.set_cons_zero, List.set_cons_succ]
       refine take_run (i := 10) (v := ?vc10) rfl (by kernel_rfl) (by kernel_rfl) (by kernel_rfl) (fun _ _ _ h => h) (by rfl) ?yc10 (by assumption) ?rc10
       case yc10 => (intro w hSw; (try dsimp only at hSw); go_simp; try with_reducible rfl)
       try simp only [Act.put, List.setIfInBounds_toArray, List.set_cons_zero, List.set_cons_succ]
       refine wpAnyH_done (by kernel_rfl) ?_ _
       refine NoPanic.normal ?_
       have hb14 := HB14.out
       have HWp := Lib.hid (fun k hk => HOwd1.out.block k hk)
       have HOBw14 := Lib.hid (HOBwd1.out.below hb14 HOBwd1.out.lt)
       have HSBw14 := Lib.hid (HSBwd1.out.below hb14 HSBwd1.out.lt)
       have HTw14 := Lib.hid (HTwd1.out.below hb14 HTwd1.out.lt)
       have HGw14 := Lib.hid (HGwd1.out.below hb14 HGwd1.out.lt)
       have HXw14 := Lib.hid (HXwd1.out.below hb14 HXwd1.out.lt)
       have HOw14 := Lib.hid (HOwd1.out.below hb14 (Nat.le_refl _))
       have ERw14 := Lib.hid (ERwd1.out.below hb14)
       have ELw14 := Lib.hid (ELwd1.out.below hb14)
       have EQw14 := Lib.hid (EQwd1.out.below hb14)
       have HKw14 := Lib.hid (HKwd1.out.below hb14)
       have zzw14 : wd1.heap.size ≤ w14.heap.size := hb14.size
       clear HOBwd1 HSBwd1 HTwd1 HGwd1 HXwd1 HOwd1 ERwd1 ELwd1 EQwd1 HKwd1
       clear hb14
       have cX0 : w14.cell? ⟨wi.heap.size, 0, none⟩ = some (.int .i64 ql) := HXw14.out.cell 0
       have cX1 : w14.cell? ⟨wi.heap.size, 1, none⟩ = some (.slice Aq qr.length cq) := HXw14.out.cell 1
       have zX := HXw14.out.lt
       have hcap1 : (oN + 1) * 32 ≤ 140737488355328 := by omega
       have hcap2 : oN + 1 ≤ 9223372036854775807 := by omega
       have HOn := Lib.hid (HOw14.out.alloc (.cells #[.int .i64 ql, .slice (some ⟨g7, 0, none⟩) (m + 1) c3] 33))
       have HRd : Hid (Dat.rd (w14.alloc (.cells #[.int .i64 ql, .slice (some ⟨g7, 0, none⟩) (m + 1) c3] 33)) (OwnT S w8.heap.size (.slice Av oN cv) (w14.alloc (.cells #[.int .i64 ql, .slice (some ⟨g7, 0, none⟩) (m + 1) c3] 33))) (⟨ql, (qr.take m ++ [(⟨false, (n : Int)⟩ : Sym)])⟩ : Rule) [.int .i64 ql, .slice (some ⟨g7, 0, none⟩) (m + 1) c3]) := Lib.hid ⟨_, rfl, HQi.out, Vl.of_slice HRl.out.symm HR2.out.1 HR2.out.2.1 ((HR2.out.2.2.2.2.below ((Below.refl _ _).alloc (Nat.le_refl _) _)).keep (fun _ _ _ => rfl) (fun b hb => by have h1 := HR2.out.2.2.1; have h2 := HR2.out.2.2.2.1; have h3 : b = g7 := hb; exact ⟨.inr (by omega), fun e => by have := (HWp.out b e).2; omega, by simp; omega⟩))⟩
       have HXl : Hid (((keepK (k0 :: l') j).map (facRule ⟨gt, (n : Int), gs, rs⟩ (k0 :: l') m)).length = oN) := Lib.hid HOl.out
       have HCz : Hid (w8.heap.size ≤ (w14.alloc (.cells #[.int .i64 ql, .slice (some ⟨g7, 0, none⟩) (m + 1) c3] 33)).heap.size) := Lib.hid (by have := HKw14.out.size; simp; omega)
       have HCp : Hid ((((keepK (k0 :: l') j).map (facRule ⟨gt, (n : Int), gs, rs⟩ (k0 :: l') m)).length + 1) * 32 ≤ 140737488355328 ∧ ((keepK (k0 :: l') j).map (facRule ⟨gt, (n : Int), gs, rs⟩ (k0 :: l') m)).length + 1 ≤ 9223372036854775807) := Lib.hid (by rw [HXl.out]; exact ⟨hcap1, hcap2⟩)
       clear hcap1 hcap2
       have cOB0 : w14.cell? ⟨OB, 0, none⟩ = some (.int .i64 gt) := HOBw14.out.cell 0
       have cOB1 : w14.cell? ⟨OB, 1, none⟩ = some (.int .i64 ((n : Int) + 1)) := HOBw14.out.cell 1
       have cOB2 : w14.cell? ⟨OB, 2, none⟩ = some (.int .i64 gs) := HOBw14.out.cell 2
       have cOB3 : w14.cell? ⟨OB, 3, none⟩ = some (.slice Av oN cv) := HOBw14.out.cell 3
       have fOB0 := HOBw14.out.frozen 0
       have fOB1 := HOBw14.out.frozen 1
       have fOB2 := HOBw14.out.frozen 2
       have fOB3 := HOBw14.out.frozen 3
       have zOB := HOBw14.out.lt
       go_wp2_with ((at_builtin); (refine wpList_own1 _ rfl _ _ elemRule rfl rfl HOn.out ⟨ql, (qr.take m ++ [(⟨false, (n : Int)⟩ : Sym)])⟩ [.int .i64 ql, .slice (some ⟨g7, 0, none⟩) (m + 1) c3] rfl (At.new _ _ _) HRd.out HCp.out.1 HCp.out.2 HCz.out ?_); (intro v4 w15 hown4 hg4 hat4); (obtain ⟨A9, k9, hv9, _⟩ := hown4.form); (rw [snoc_len, HXl.out] at hv9); (subst hv9); (have hO4 := (HOBw14.out.alloc (.cells #[.int .i64 ql, .slice (some ⟨g7, 0, none⟩) (m + 1) c3] 33)).grown hg4 (fun e => by have h9 := (HOw14.out.block _ e.symm).1; omega)); (have m3 := hO4.cell 3); (have f3 := hO4.frozen 3); (have zO4 := hO4.lt); (have H4 := Lib.hid (And.intro hown4 (And.intro hg4 hO4))); (clear hown4 hg4 hat4 hO4); (simp at m3))
       go_roundw
       case rel =>
        obtain ⟨hown4, hg4, hO4⟩ := H4.out
        have hb0 : ∀ k, (Value.slice Av oN cv).ownBlock = some k → w8.heap.size ≤ k := fun k hk => (HOw14.out.block k hk).1
        have hk4 : Kept (fun b => b = OB ∨ (Value.slice Av oN cv).ownBlock = some b) w14 (w15.setCell ⟨OB, 3, none⟩ (.slice A9 (oN + 1) k9)) := ((((Kept.refl _ w14).alloc _).grown hg4 (fun k hk => .inl (.inr hk))).setCell (p := ⟨OB, 3, none⟩) (.inl (.inl rfl)) _)
        have hx4 : ∀ b, (b = OB ∨ (Value.slice Av oN cv).ownBlock = some b) → b = OB ∨ w8.heap.size ≤ b := fun b hb => by rcases hb with hb | hb; exact .inl hb; exact .inr (hb0 b hb)
        have e1 : (keepK (k0 :: l') (j + 1)).map (facRule ⟨gt, (n : Int), gs, rs⟩ (k0 :: l') m) = ((keepK (k0 :: l') j).map (facRule ⟨gt, (n : Int), gs, rs⟩ (k0 :: l') m)) ++ [⟨ql, (qr.take m ++ [(⟨false, (n : Int)⟩ : Sym)])⟩] := by
         rw [keepK_hit (by rw [HJk.out]; exact keepB_head), List.map_append]
         show _ ++ [facRule ⟨gt, (n : Int), gs, rs⟩ (k0 :: l') m j] = _
         unfold facRule
         rw [if_pos (show j = (k0 :: l').headD 0 from HJk.out), rulN_of (g := ⟨gt, (n : Int), gs, rs⟩) HQ.out]
        have e2 : (if (k0 :: l').headD 0 < j + 1 then facHd (k0 :: l') else 0) = (oN : Int) := by
         have h1 := HJk.out
         have h2 := HOk.out
         rw [if_pos (show (k0 :: l').headD 0 < j + 1 from (show k0 < j + 1 by omega))]
         show ((keepK (k0 :: l') k0).length : Int) = _
         rw [show keepK (k0 :: l') k0 = keepK (k0 :: l') j from congrArg _ h1.symm, h2]
        have hOn4 : Own (w15.setCell ⟨OB, 3, none⟩ (.slice A9 (oN + 1) k9)) S w8.heap.size 33 (.slice A9 (oN + 1) k9) ((keepK (k0 :: l') (j + 1)).map (facRule ⟨gt, (n : Int), gs, rs⟩ (k0 :: l') m)) := by rw [e1]; exact hown4.setCell (p := ⟨OB, 3, none⟩) (fun e => by have h9 := (hown4.block _ e).1; dsimp only at h9; omega) (by rintro (h | h); (have := HS.out _ h; dsimp only at this; omega); (dsimp only at h; omega)) _
        have hS4 := HSBw14.out.kept hk4 (fun h => by have := hx4 _ h; omega)
        rw [← e2] at hS4
        repeat (apply Exists.intro)
        refine ⟨?relA, ?eqsA⟩
        case eqsA => repeat (first | exact rfl | refine ⟨rfl, ?_⟩)
        exact ⟨j + 1, _, hjl, by rw [Int.natCast_add]; rfl, hOn4, hO4.set_ 3 _, hS4, by rw [facTo_miss (show j ∈ (k0 :: l') by rw [HJk.out]; simp)]; exact HTw14.out.kept hk4 (fun h => by have := hx4 _ h; omega), HKw14.out.later hk4 (fun b hb => by rcases hx4 b hb with h | h; exact .inl (.inl h); exact .inr h)⟩
       case measure => simp [intOf]; omega
      ·have d0 : ((j : Int) == (k0 : Int)) = false := by simp; omega
       have d1 : (j == k0) = false := by simp [hjk]
       have d2 : decide (j = k0) = false := by simp [hjk]
       have d3 : decide ((j : Int) = (k0 : Int)) = false := by simp; omega
       have HJk := Lib.hid hjk
       clear hjk
       have zO8 := HOBw9.out.lt
       have zS8 := HSBw9.out.lt
       have zT8 := HTw9.out.lt
       have zG8 := HGw9.out.lt
       have zX8 := HXw9.out.lt
       go_wp2_with fail
       refine (containsInt_any (some ⟨bl, ol, none⟩) (l'.length + 1) lc (natsI (k0 :: l')) (j : Int) S w9 (by rw [natsI_len]; rfl) (by rw [natsI_len]; omega) ELw9.out).mono ?_
       rintro e w' ⟨rfl, rfl⟩
       clear d0 d1 d2 d3 hl0 hbl
       have e2 : (if (k0 :: l').headD 0 < j + 1 then facHd (k0 :: l') else 0) = hdj := by
        have h1 := HJk.out
        rw [HHd.out]
        show (if k0 < j + 1 then _ else _) = _
        by_cases h2 : k0 < j
        ·rw [if_pos (by omega), if_pos h2]
        ·rw [if_neg (by omega), if_neg h2]
       have HE2 := Lib.hid e2
       clear e2
       by_cases hin : j ∈ (k0 :: l')
       ·rw [show decide ((j : Int) ∈ natsI (k0 :: l')) = true from decide_eq_true (natsI_mem.2 hin)]
        have HIn := Lib.hid hin
        clear hin
        have HKm : Hid (keepK (k0 :: l') (j + 1) = keepK (k0 :: l') j) := Lib.hid (keepK_miss (by unfold keepB; simp only [decide_eq_true HIn.out, Bool.not_true, Bool.or_false, decide_eq_false_iff_not]; exact HJk.out))
        go_wp2
        go_roundw
        case rel =>
         have hS4 := HSBw9.out
         rw [← HE2.out] at hS4
         repeat (apply Exists.intro)
         refine ⟨?relC, ?eqsC⟩
         case eqsC => repeat (first | exact rfl | refine ⟨rfl, ?_⟩)
         exact ⟨j + 1, _, hjl, by rw [Int.natCast_add]; rfl, by rw [HKm.out]; exact HOw9.out, HOBw9.out, hS4, by rw [facTo_miss HIn.out]; exact HTw9.out, HKw9.out⟩
        case measure => simp [intOf]; omega
       ·rw [show decide ((j : Int) ∈ natsI (k0 :: l')) = false from decide_eq_false (fun h => hin (natsI_mem.1 h))]
        have HIn := Lib.hid hin
        clear hin
        have cOB0 : w9.cell? ⟨OB, 0, none⟩ = some (.int .i64 gt) := HOBw9.out.cell 0
        have cOB1 : w9.cell? ⟨OB, 1, none⟩ = some (.int .i64 ((n : Int) + 1)) := HOBw9.out.cell 1
        have cOB2 : w9.cell? ⟨OB, 2, none⟩ = some (.int .i64 gs) := HOBw9.out.cell 2
        have cOB3 : w9.cell? ⟨OB, 3, none⟩ = some (.slice Av oN cv) := HOBw9.out.cell 3
        have zOB := HOBw9.out.lt
        have cSB0 : w9.cell? ⟨SB, 0, none⟩ = some (.int .i64 (m : Int)) := HSBw9.out.cell 0
        have cSB1 : w9.cell? ⟨SB, 1, none⟩ = some (.int .i64 hdj) := HSBw9.out.cell 1
        have cSB2 : w9.cell? ⟨SB, 2, none⟩ = some (.slice (some ⟨gT, 0, none⟩) rs.length rs.length) := HSBw9.out.cell 2
        have cSB3 : w9.cell? ⟨SB, 3, none⟩ = some (.slice (some ⟨gL, 0, none⟩) rs.length rs.length) := HSBw9.out.cell 3
        have cSB4 : w9.cell? ⟨SB, 4, none⟩ = some (.int .i64 gt) := HSBw9.out.cell 4
        have cSB5 : w9.cell? ⟨SB, 5, none⟩ = some (.int .i64 (n : Int)) := HSBw9.out.cell 5
        have cSB6 : w9.cell? ⟨SB, 6, none⟩ = some (.int .i64 gs) := HSBw9.out.cell 6
        have cSB7 : w9.cell? ⟨SB, 7, none⟩ = some (.slice (some ⟨br, orr, none⟩) rs.length c) := HSBw9.out.cell 7
        have zSB := HSBw9.out.lt
        have ct : w9.cell? ⟨gT, j, none⟩ = some (.int .i64 (-1)) := by rw [HTw9.out.cell j]; exact icells_get (by rw [facTo_get (g := ⟨gt, (n : Int), gs, rs⟩) hjl, if_neg (by omega)])
        have ft := HTw9.out.frozen j
        obtain ⟨w10, hw10⟩ : ∃ q : World, q = w9.setCell ⟨gT, j, none⟩ (.int .i64 (oN : Int)) := ⟨_, rfl⟩
        have HWw10 := Lib.hid hw10
        have hk10 : Kept (fun b => b = gT) w9 w10 := by rw [hw10]; exact (Kept.refl (fun b => b = gT) w9).setCell (p := ⟨gT, j, none⟩) (.inl rfl) _
        have HTw10 : Hid (Blk' w10 gT 3 (icells (facTo ⟨gt, (n : Int), gs, rs⟩ (k0 :: l') (j + 1)))) := Lib.hid (by rw [hw10, facTo_hit (g := ⟨gt, (n : Int), gs, rs⟩) hjl HIn.out, ← icells_set]; have h := HTw9.out.set_ j (.int .i64 (oN : Int)); rw [HOk.out]; exact h)
        have HOBw10 := Lib.hid (HOBw9.out.kept hk10 (by omega))
        have HSBw10 := Lib.hid (HSBw9.out.kept hk10 (by omega))
        have HGw10 := Lib.hid (HGw9.out.kept hk10 (by omega))
        have HXw10 := Lib.hid (HXw9.out.kept hk10 (by omega))
        have HOw10 := Lib.hid (HOw9.out.kept hk10 (fun b hb h => by (try dsimp only at hb); rcases h with h | h; (have := HS.out b h; omega); omega))
        have ERw10 := Lib.hid (ERw9.out.kept hk10 (fun b hb h => by have := HS.out b hb; omega))
        have ELw10 := Lib.hid (ELw9.out.kept hk10 (fun b hb h => by have := HS.out b hb; omega))
        have EQw10 := Lib.hid (EQw9.out.kept hk10 (fun b hb h => by have := HS.out b hb; omega))
        have HKw10 := Lib.hid (HKw9.out.later hk10 (fun b hb => .inl (.inr (.inr hb))))
        have zzw10 : w9.heap.size ≤ w10.heap.size := hk10.size
        clear hw10 hk10
        go_upto_region 18 with (fail)
        rw [← HWw10.out]
        clear cOB0 cOB1 cOB2 cOB3 zOB cSB0 cSB1 cSB2 cSB3 cSB4 cSB5 cSB6 cSB7 zSB
        clear ct ft HWw10
        have cX0 : w10.cell? ⟨wi.heap.size, 0, none⟩ = some (.int .i64 ql) := HXw10.out.cell 0
        have cX1 : w10.cell? ⟨wi.heap.size, 1, none⟩ = some (.slice Aq qr.length cq) := HXw10.out.cell 1
        have zX := HXw10.out.lt
        have hcap1 : (oN + 1) * 32 ≤ 140737488355328 := by omega
        have hcap2 : oN + 1 ≤ 9223372036854775807 := by omega
        have HOn := Lib.hid (HOw10.out.alloc (.cells #[.int .i64 ql, .slice Aq qr.length cq] 33))
        have HRd : Hid (Dat.rd (w10.alloc (.cells #[.int .i64 ql, .slice Aq qr.length cq] 33)) (OwnT S w8.heap.size (.slice Av oN cv) (w10.alloc (.cells #[.int .i64 ql, .slice Aq qr.length cq] 33))) (⟨ql, qr⟩ : Rule) [.int .i64 ql, .slice Aq qr.length cq]) := Lib.hid ⟨_, rfl, HQi.out, Vl.of_slice rfl HRc.out.1 HRc.out.2 ((EQw10.out.below ((Below.refl _ _).alloc (Nat.le_refl _) _)).keep (fun _ _ _ => rfl) (fun b hb => by have h1 := HS.out b hb; exact ⟨.inl hb, fun e => by have := (HOw10.out.block b e).1; omega, by simp; omega⟩))⟩
        have HXl : Hid (((keepK (k0 :: l') j).map (facRule ⟨gt, (n : Int), gs, rs⟩ (k0 :: l') m)).length = oN) := Lib.hid HOl.out
        have HCz : Hid (w8.heap.size ≤ (w10.alloc (.cells #[.int .i64 ql, .slice Aq qr.length cq] 33)).heap.size) := Lib.hid (by have := HKw10.out.size; simp; omega)
        have HCp : Hid ((((keepK (k0 :: l') j).map (facRule ⟨gt, (n : Int), gs, rs⟩ (k0 :: l') m)).length + 1) * 32 ≤ 140737488355328 ∧ ((keepK (k0 :: l') j).map (facRule ⟨gt, (n : Int), gs, rs⟩ (k0 :: l') m)).length + 1 ≤ 9223372036854775807) := Lib.hid (by rw [HXl.out]; exact ⟨hcap1, hcap2⟩)
        clear hcap1 hcap2
        have cOB0 : w10.cell? ⟨OB, 0, none⟩ = some (.int .i64 gt) := HOBw10.out.cell 0
        have cOB1 : w10.cell? ⟨OB, 1, none⟩ = some (.int .i64 ((n : Int) + 1)) := HOBw10.out.cell 1
        have cOB2 : w10.cell? ⟨OB, 2, none⟩ = some (.int .i64 gs) := HOBw10.out.cell 2
        have cOB3 : w10.cell? ⟨OB, 3, none⟩ = some (.slice Av oN cv) := HOBw10.out.cell 3
        have fOB0 := HOBw10.out.frozen 0
        have fOB1 := HOBw10.out.frozen 1
        have fOB2 := HOBw10.out.frozen 2
        have fOB3 := HOBw10.out.frozen 3
        have zOB := HOBw10.out.lt
        go_wp2_with ((at_builtin); (refine wpList_own1 _ rfl _ _ elemRule rfl rfl HOn.out ⟨ql, qr⟩ [.int .i64 ql, .slice Aq qr.length cq] rfl (At.new _ _ _) HRd.out HCp.out.1 HCp.out.2 HCz.out ?_); (intro v4 w15 hown4 hg4 hat4); (obtain ⟨A9, k9, hv9, _⟩ := hown4.form); (rw [snoc_len, HXl.out] at hv9); (subst hv9); (have hO4 := (HOBw10.out.alloc (.cells #[.int .i64 ql, .slice Aq qr.length cq] 33)).grown hg4 (fun e => by have h9 := (HOw10.out.block _ e.symm).1; omega)); (have m3 := hO4.cell 3); (have f3 := hO4.frozen 3); (have zO4 := hO4.lt); (have H4 := Lib.hid (And.intro hown4 (And.intro hg4 hO4))); (clear hown4 hg4 hat4 hO4); (simp at m3))
        go_roundw
        case rel =>
         obtain ⟨hown4, hg4, hO4⟩ := H4.out
         have hb0 : ∀ k, (Value.slice Av oN cv).ownBlock = some k → w8.heap.size ≤ k := fun k hk => (HOw10.out.block k hk).1
         have hk4 : Kept (fun b => b = OB ∨ (Value.slice Av oN cv).ownBlock = some b) w10 (w15.setCell ⟨OB, 3, none⟩ (.slice A9 (oN + 1) k9)) := ((((Kept.refl _ w10).alloc _).grown hg4 (fun k hk => .inl (.inr hk))).setCell (p := ⟨OB, 3, none⟩) (.inl (.inl rfl)) _)
         have hx4 : ∀ b, (b = OB ∨ (Value.slice Av oN cv).ownBlock = some b) → b = OB ∨ w8.heap.size ≤ b := fun b hb => by rcases hb with hb | hb; exact .inl hb; exact .inr (hb0 b hb)
         have e1 : (keepK (k0 :: l') (j + 1)).map (facRule ⟨gt, (n : Int), gs, rs⟩ (k0 :: l') m) = ((keepK (k0 :: l') j).map (facRule ⟨gt, (n : Int), gs, rs⟩ (k0 :: l') m)) ++ [⟨ql, qr⟩] := by
          rw [keepK_hit (keepB_not HIn.out), List.map_append]
          show _ ++ [facRule ⟨gt, (n : Int), gs, rs⟩ (k0 :: l') m j] = _
          unfold facRule
          rw [if_neg (show ¬ j = (k0 :: l').headD 0 from HJk.out), rulN_of (g := ⟨gt, (n : Int), gs, rs⟩) HQ.out]
         have e2 := HE2.out
         have hOn4 : Own (w15.setCell ⟨OB, 3, none⟩ (.slice A9 (oN + 1) k9)) S w8.heap.size 33 (.slice A9 (oN + 1) k9) ((keepK (k0 :: l') (j + 1)).map (facRule ⟨gt, (n : Int), gs, rs⟩ (k0 :: l') m)) := by rw [e1]; exact hown4.setCell (p := ⟨OB, 3, none⟩) (fun e => by have h9 := (hown4.block _ e).1; dsimp only at h9; omega) (by rintro (h | h); (have := HS.out _ h; dsimp only at this; omega); (dsimp only at h; omega)) _
         have hS4 := HSBw10.out.kept hk4 (fun h => by have := hx4 _ h; omega)
         rw [← e2] at hS4
         repeat (apply Exists.intro)
         refine ⟨?relD, ?eqsD⟩
         case eqsD => repeat (first | exact rfl | refine ⟨rfl, ?_⟩)
         exact ⟨j + 1, _, hjl, by rw [Int.natCast_add]; rfl, hOn4, hO4.set_ 3 _, hS4, HTw10.out.kept hk4 (fun h => by have := hx4 _ h; omega), HKw10.out.later hk4 (fun b hb => by rcases hx4 b hb with h | h; exact .inl (.inl h); exact .inr h)⟩
        case measure => simp [intOf]; omega
     ·have hje : j = rs.length := by omega
      subst hje
      have e2 : (if (k0 :: l').headD 0 < rs.length then facHd (k0 :: l') else 0) = facHd (k0 :: l') := if_pos hk0l
      rw [e2] at HSi
      clear e2
      go_wp2_with fail
      obtain ⟨wl, hwl⟩ : ∃ q : World, q = wi := ⟨_, rfl⟩
      subst hwl
      have HR4l := Lib.hid (HR48.out.kept HKi.out (by have := HB8.out.size; omega))
      have HR5l := Lib.hid (HR58.out.kept HKi.out (by have := HB8.out.size; omega))
      have HL8l := Lib.hid (HL8.out.kept HKi.out (by omega))
      have HBl : Hid (Below w.heap.size w wl) := Lib.hid (bthen HB8.out HBi.out (by omega))
      clear HR48 HR58 HL8 HBi
      go_loopw [128] (fun i wr => NxT S ⟨gt, (n : Int), gs, rs⟩ (k0 :: l') m w w8 wl OB gL i wr) (fun i _ => l'.length + 1 - (intOf i).toNat)
      case atStart => exact ⟨0, _, Nat.zero_le _, rfl, by rw [List.take_zero, List.map_nil, List.append_nil]; exact HOw.out, HOi.out, by rw [facTail_zero]; exact HL8l.out, Kept.refl _ _⟩
      case round =>
       obtain ⟨wi, hwi⟩ : ∃ wi : World, wi = wr := ⟨_, rfl⟩
       subst hwi
       obtain ⟨p, v, hp, rfl, hown, hO, hLt, hK⟩ := hrel
       clear HOw HOi HKi
       obtain ⟨Av, cv, rfl, _⟩ := hown.form
       dsimp only at hp hO hLt
       have HOw := Lib.hid hown
       have HOi := Lib.hid hO
       have HTt := Lib.hid (HTi.out.kept hK (by omega))
       have HSi := Lib.hid (HSi.out.kept hK (by omega))
       have HTi := Lib.hid hLt
       have HKi := Lib.hid hK
       have HGi := Lib.hid (HGi.out.kept hK (by omega))
       have HAi := Lib.hid (HAi.out.kept hK (fun b hb h => by have := HS.out b hb; omega))
       have HLi := Lib.hid (HLi.out.kept hK (fun b hb h => by have := HS.out b hb; omega))
       have HR4i := Lib.hid (HR4l.out.kept hK (by omega))
       have HR5i := Lib.hid (HR5l.out.kept hK (by omega))
       have HBi : Hid (Below w.heap.size w wi) := Lib.hid (HBl.out.trans (hK.to_below (B := w.heap.size) (fun b hb => by omega) HBl.out.size))
       have zwl : wl.heap.size ≤ wi.heap.size := hK.size
       clear hown hO hLt hK HR4l HR5l HBl HL8l
       by_cases hpl : p < l'.length + 1
       ·skip
        have hpl' : (p : Int) < (l'.length : Int) + 1 := by omega
        have hp0 : (0 : Int) ≤ (p : Int) := by omega
        obtain ⟨k, hk⟩ := get_some (show p < (k0 :: l').length from hpl)
        obtain ⟨q, hq, hqa, _⟩ := HNx.out.each k (List.mem_of_getElem? hk)
        have hkl : k < rs.length := (List.getElem?_eq_some_iff.1 hq).1
        have hqr : q.right.length ≤ 4 := (HV.out.rules q (List.mem_of_getElem? hq)).2.2.1
        obtain ⟨oN, hoN⟩ : ∃ oN, oN = ((keepK (k0 :: l') rs.length).map (facRule ⟨gt, (n : Int), gs, rs⟩ (k0 :: l') m) ++ ((k0 :: l').take p).map (fun k => (⟨(n : Int), (rulN ⟨gt, (n : Int), gs, rs⟩ k).right.drop m⟩ : Rule))).length := ⟨_, rfl⟩
        have HOl : Hid (((keepK (k0 :: l') rs.length).map (facRule ⟨gt, (n : Int), gs, rs⟩ (k0 :: l') m) ++ ((k0 :: l').take p).map (fun k => (⟨(n : Int), (rulN ⟨gt, (n : Int), gs, rs⟩ k).right.drop m⟩ : Rule))).length = oN) := Lib.hid hoN.symm
        have HOk : Hid ((keepK (k0 :: l') rs.length).length + p = oN) := Lib.hid (by rw [hoN, List.length_append, List.length_map, List.length_map, List.length_take, Nat.min_eq_left (show p ≤ (k0 :: l').length from hp)])
        have oN64 : oN ≤ 64 := by have h1 := keepK_len (k0 :: l') rs.length; have h2 := HOk.out; omega
        have HOwi : Hid (Own wi S w8.heap.size 33 (.slice Av oN cv) ((keepK (k0 :: l') rs.length).map (facRule ⟨gt, (n : Int), gs, rs⟩ (k0 :: l') m) ++ ((k0 :: l').take p).map (fun k => (⟨(n : Int), (rulN ⟨gt, (n : Int), gs, rs⟩ k).right.drop m⟩ : Rule)))) := Lib.hid (by rw [hoN]; exact HOw.out)
        have HOBwi : Hid (Blk' wi OB 25 #[.int .i64 gt, .int .i64 ((n : Int) + 1), .int .i64 gs, .slice Av oN cv]) := Lib.hid (by rw [hoN]; exact HOi.out)
        have HLwi := HTi
        have HGwi := HGi
        have HKwi := HKi
        have ERwi := HAi
        have ELwi := HLi
        have HSwi := HSi
        clear hoN HOw HOi HTi HGi HKi HAi HLi HSi
        obtain ⟨_, _, Aq, cq, e2, hSb, hbr, hqi, hrc, hcr, hEq, hr0, hr1⟩ := ERwi.out.rule hq
        injection e2 with e2
        injection e2 with e3 e4 _
        subst e3; subst e4
        have hbS : br < w.heap.size := HS.out br hSb
        obtain ⟨_, _, e2, _, hbl, _, hlp⟩ := ELwi.out.int (natsI_get hk)
        injection e2 with e2
        injection e2 with e3 e4 _
        subst e3; subst e4
        obtain ⟨ql, qr⟩ := q
        dsimp only at *
        have HQ := Lib.hid hq
        have HRc := Lib.hid (And.intro hrc hcr)
        have EQwi := Lib.hid hEq
        have HPk := Lib.hid hk
        clear hq hqi hEq hk hr0 hqa
        have hmr : m ≤ qr.length := by
         have h := (HNx.out.fac).1.each k (List.mem_of_getElem? HPk.out)
         obtain ⟨q', h1, _, _, h4⟩ := h
         rw [HQ.out] at h1
         injection h1 with h1
         rw [← HMf.out, ← h1] at h4
         exact h4
        have hr1 : wi.cell? ⟨br, orr + k * 2 + 1, none⟩ = some (.slice Aq qr.length cq) := hr1
        have hk2 : (0 : Int) ≤ (k : Int) := by omega
        have hk3 : (k : Int) < (rs.length : Int) := by omega
        have zO8 := HOBwi.out.lt
        have zS8 := HSwi.out.lt
        have zL8 := HLwi.out.lt
        have zG8 := HGwi.out.lt
        have cOB0 : wi.cell? ⟨OB, 0, none⟩ = some (.int .i64 gt) := HOBwi.out.cell 0
        have cOB1 : wi.cell? ⟨OB, 1, none⟩ = some (.int .i64 ((n : Int) + 1)) := HOBwi.out.cell 1
        have cOB2 : wi.cell? ⟨OB, 2, none⟩ = some (.int .i64 gs) := HOBwi.out.cell 2
        have cOB3 : wi.cell? ⟨OB, 3, none⟩ = some (.slice Av oN cv) := HOBwi.out.cell 3
        have zOB := HOBwi.out.lt
        have cS0 : wi.cell? ⟨SB, 0, none⟩ = some (.int .i64 (m : Int)) := HSwi.out.cell 0
        have cS1 : wi.cell? ⟨SB, 1, none⟩ = some (.int .i64 (facHd (k0 :: l'))) := HSwi.out.cell 1
        have cS2 : wi.cell? ⟨SB, 2, none⟩ = some (.slice (some ⟨gT, 0, none⟩) rs.length rs.length) := HSwi.out.cell 2
        have cS3 : wi.cell? ⟨SB, 3, none⟩ = some (.slice (some ⟨gL, 0, none⟩) rs.length rs.length) := HSwi.out.cell 3
        have cS4 : wi.cell? ⟨SB, 4, none⟩ = some (.int .i64 gt) := HSwi.out.cell 4
        have cS5 : wi.cell? ⟨SB, 5, none⟩ = some (.int .i64 (n : Int)) := HSwi.out.cell 5
        have cS6 : wi.cell? ⟨SB, 6, none⟩ = some (.int .i64 gs) := HSwi.out.cell 6
        have cS7 : wi.cell? ⟨SB, 7, none⟩ = some (.slice (some ⟨br, orr, none⟩) rs.length c) := HSwi.out.cell 7
        have zS := HSwi.out.lt
        have ct : wi.cell? ⟨gL, k, none⟩ = some (.int .i64 (-1)) := by rw [HLwi.out.cell k]; exact icells_get (by rw [facTail_get (g := ⟨gt, (n : Int), gs, rs⟩) hkl, if_neg (fun h => by
         obtain ⟨i, hi⟩ := List.getElem?_of_mem h
         have hil := (List.getElem?_eq_some_iff.1 hi).1
         rw [List.length_take] at hil
         rw [List.getElem?_take_of_lt (by omega)] at hi
         have := nodup_at HNx.out.nodup hi HPk.out
         omega)])
        have ft := HLwi.out.frozen k
        obtain ⟨w10, hw10⟩ : ∃ q : World, q = wi.setCell ⟨gL, k, none⟩ (.int .i64 (oN : Int)) := ⟨_, rfl⟩
        have HWw10 := Lib.hid hw10
        have hk10 : Kept (fun b => b = gL) wi w10 := by rw [hw10]; exact (Kept.refl (fun b => b = gL) wi).setCell (p := ⟨gL, k, none⟩) (.inl rfl) _
        have HLw10 : Hid (Blk' w10 gL 3 (icells (facTail ⟨gt, (n : Int), gs, rs⟩ (k0 :: l') (p + 1)))) := Lib.hid (by rw [hw10, facTail_hit (g := ⟨gt, (n : Int), gs, rs⟩) HNx.out.nodup HPk.out, ← icells_set]; have h := HLwi.out.set_ k (.int .i64 (oN : Int)); rw [HOk.out]; exact h)
        have HOBw10 := Lib.hid (HOBwi.out.kept hk10 (by omega))
        have HGw10 := Lib.hid (HGwi.out.kept hk10 (by omega))
        have HSw10 := Lib.hid (HSwi.out.kept hk10 (by omega))
        have HOw10 := Lib.hid (HOwi.out.kept hk10 (fun b hb h => by (try dsimp only at hb); rcases h with h | h; (have := HS.out b h; omega); omega))
        have ERw10 := Lib.hid (ERwi.out.kept hk10 (fun b hb h => by have := HS.out b hb; omega))
        have ELw10 := Lib.hid (ELwi.out.kept hk10 (fun b hb h => by have := HS.out b hb; omega))
        have EQw10 := Lib.hid (EQwi.out.kept hk10 (fun b hb h => by have := HS.out b hb; omega))
        have HKw10 := Lib.hid (HKwi.out.later hk10 (fun b hb => .inl (.inr (.inl hb))))
        have zzw10 : wi.heap.size ≤ w10.heap.size := hk10.size
        have hr1 : w10.cell? ⟨br, orr + k * 2 + 1, none⟩ = some (.slice Aq qr.length cq) := by rw [hk10.cell (p := ⟨br, orr + k * 2 + 1, none⟩) hbr (by show ¬ br = gL; omega)]; exact hr1
        have hbr10 : br < w10.heap.size := Nat.lt_of_lt_of_le hbr hk10.size
        clear hw10 hk10
        go_upto_region 24 with (fail)
        rw [← HWw10.out]
        clear cOB0 cOB1 cOB2 cOB3 zOB cS0 cS1 cS2 cS3 cS4 cS5 cS6 cS7 zS
        clear ct ft hlp hbl HWw10
        obtain ⟨bq, oq, rfl⟩ : ∃ bq oq, Aq = some ⟨bq, oq, none⟩ := by
         cases hqe : qr with
         | nil => have h1 := (HNx.out.fac).2; rw [← HMf.out] at h1; rw [hqe] at hmr; simp at hmr; omega
         | cons y ys =>
          obtain ⟨b, o, e, _⟩ := EQw10.out (by rw [hqe]; simp)
          exact ⟨b, o, e⟩
        by_cases hcm : cq = m
        ·have hm0 : (0 : Int) ≤ (m : Int) := by omega
         have hm1 : (m : Int) ≤ (cq : Int) := by have := HRc.out.1; omega
         have hm2 : (m : Int) ≤ (qr.length : Int) := by omega
         have cOB0 : w10.cell? ⟨OB, 0, none⟩ = some (.int .i64 gt) := HOBw10.out.cell 0
         have cOB1 : w10.cell? ⟨OB, 1, none⟩ = some (.int .i64 ((n : Int) + 1)) := HOBw10.out.cell 1
         have cOB2 : w10.cell? ⟨OB, 2, none⟩ = some (.int .i64 gs) := HOBw10.out.cell 2
         have cOB3 : w10.cell? ⟨OB, 3, none⟩ = some (.slice Av oN cv) := HOBw10.out.cell 3
         have zOB := HOBw10.out.lt
         have cG0 : w10.cell? ⟨w.heap.size, 0, none⟩ = some (.int .i64 gt) := HGw10.out.cell 0
         have cG1 : w10.cell? ⟨w.heap.size, 1, none⟩ = some (.int .i64 (n : Int)) := HGw10.out.cell 1
         have cG2 : w10.cell? ⟨w.heap.size, 2, none⟩ = some (.int .i64 gs) := HGw10.out.cell 2
         have cG3 : w10.cell? ⟨w.heap.size, 3, none⟩ = some (.slice (some ⟨br, orr, none⟩) rs.length c) := HGw10.out.cell 3
         have zG := HGw10.out.lt
         refine wp_region_noPanic ?_
         refine stage_start (S := (fun w' => w'.cell? ⟨OB, 3, none⟩ = some (.slice Av oN cv) ∧ w'.cell? ⟨w.heap.size, 1, none⟩ = some (.int .i64 (n : Int)) ∧ w'.cell? ⟨w.heap.size, 3, none⟩ = some (.slice (some ⟨br, orr, none⟩) rs.length c) ∧ w'.cell? ⟨br, orr + k * 2 + 1, none⟩ = some (.slice (some ⟨bq, oq, none⟩) qr.length cq))) 17 (by kernel_rfl) ?hta (fun hHeld => ?bta)
         case hta => ((try dsimp only); go_keep)
         clear cOB0 cOB1 cOB2 cOB3 zOB cG0 cG1 cG2 cG3 zG
         obtain ⟨wd1, hwd1⟩ : ∃ q : World, q = w10.drew := ⟨_, rfl⟩
         rw [← hwd1] at hHeld ⊢
         have hbd : Below w10.heap.size w10 wd1 := by rw [hwd1]; exact (Below.refl _ _).drew
         have hr2 : wd1.cell? ⟨br, orr + k * 2 + 1, none⟩ = some (.slice (some ⟨bq, oq, none⟩) qr.length cq) := by rw [hbd.cell (p := ⟨br, orr + k * 2 + 1, none⟩) hbr10]; exact hr1
         have hbr2 : br < wd1.heap.size := Nat.lt_of_lt_of_le hbr10 hbd.size
         clear hwd1
         have HOBwd1 := Lib.hid (HOBw10.out.below hbd HOBw10.out.lt)
         have HLwd1 := Lib.hid (HLw10.out.below hbd HLw10.out.lt)
         have HGwd1 := Lib.hid (HGw10.out.below hbd HGw10.out.lt)
         have HSwd1 := Lib.hid (HSw10.out.below hbd HSw10.out.lt)
         have HOwd1 := Lib.hid (HOw10.out.below hbd (Nat.le_refl _))
         have ERwd1 := Lib.hid (ERw10.out.below hbd)
         have ELwd1 := Lib.hid (ELw10.out.below hbd)
         have EQwd1 := Lib.hid (EQw10.out.below hbd)
         have HKwd1 := Lib.hid (HKw10.out.below hbd)
         have zzwd1 : w10.heap.size ≤ wd1.heap.size := hbd.size
         clear HOBw10 HLw10 HGw10 HSw10 HOw10 ERw10 ELw10 EQw10 HKw10
         clear hbd
         refine st_pure (i := 0) (v := ?vta0) rfl (by kernel_rfl) (by kernel_rfl) (by kernel_rfl) (by kernel_rfl) (fun _ _ _ h => h) (by rfl) ?yta0 (.inl (by assumption)) ?rta0
         case yta0 => (intro w; go_simp; try with_reducible rfl)
         try simp only [Act.put, List.setIfInBounds_toArray, List.set_cons_zero, List.set_cons_succ]
         refine st_pure (i := 2) (v := ?vta2) rfl (by kernel_rfl) (by kernel_rfl) (by kernel_rfl) (by kernel_rfl) (fun _ _ _ h => h) (by rfl) ?yta2 (.inl (by assumption)) ?rta2
         case yta2 => (intro w; go_simp; try with_reducible rfl)
         try simp only [Act.put, List.setIfInBounds_toArray, List.set_cons_zero, List.set_cons_succ]
         refine st_pure (i := 4) (v := ?vta4) rfl (by kernel_rfl) (by kernel_rfl) (by kernel_rfl) (by kernel_rfl) (fun _ _ _ h => h) (by rfl) ?yta4 (.inl (by assumption)) ?rta4
         case yta4 => (intro w; go_simp; try with_reducible rfl)
         try simp only [Act.put, List.setIfInBounds_toArray, List.set_cons_zero, List.set_cons_succ]
         refine st_pure (i := 6) (v := ?vta6) rfl (by kernel_rfl) (by kernel_rfl) (by kernel_rfl) (by kernel_rfl) (fun _ _ _ h => h) (by rfl) ?yta6 (.inl (by assumption)) ?rta6
         case yta6 => (intro w; go_simp; try with_reducible rfl)
         try simp only [Act.put, List.setIfInBounds_toArray, List.set_cons_zero, List.set_cons_succ]
         refine st_pure (i := 10) (v := ?vta10) rfl (by kernel_rfl) (by kernel_rfl) (by kernel_rfl) (by kernel_rfl) (fun _ _ _ h => h) (by rfl) ?yta10 (.inl (by assumption)) ?rta10
         case yta10 => (intro w; go_simp; try with_reducible rfl)
         try simp only [Act.put, List.setIfInBounds_toArray, List.set_cons_zero, List.set_cons_succ]
         refine st_run (i := 1) (v := ?vta1) rfl (by kernel_rfl) (by kernel_rfl) (by kernel_rfl) (by kernel_rfl) (fun _ _ _ h => h) (by rfl) ?yta1 (by assumption) ?rta1
         case yta1 => (intro w hSw; (try dsimp only at hSw); go_simp; try with_reducible rfl)
         try simp only [Act.put, List.setIfInBounds_toArray, List.set_cons_zero, List.set_cons_succ]
         refine st_run (i := 3) (v := ?vta3) rfl (by kernel_rfl) (by kernel_rfl) (by kernel_rfl) (by kernel_rfl) (fun _ _ _ h => h) (by rfl) ?yta3 (by assumption) ?rta3
         case yta3 => (intro w hSw; (try dsimp only at hSw); go_simp; try with_reducible rfl)
         try simp only [Act.put, List.setIfInBounds_toArray, List.set_cons_zero, List.set_cons_succ]
         refine st_run (i := 5) (v := ?vta5) rfl (by kernel_rfl) (by kernel_rfl) (by kernel_rfl) (by kernel_rfl) (fun _ _ _ h => h) (by rfl) ?yta5 (by assumption) ?rta5
         case yta5 => (intro w hSw; (try dsimp only at hSw); go_simp; try with_reducible rfl)
         try simp only [Act.put, List.setIfInBounds_toArray, List.set_cons_zero, List.set_cons_succ]
         refine st_pure (i := 7) (v := ?vta7) rfl (by kernel_rfl) (by kernel_rfl) (by kernel_rfl) (by kernel_rfl) (fun _ _ _ h => h) (by rfl) ?yta7 (.inl (by assumption)) ?rta7
         case yta7 => (intro w; go_simp; try with_reducible rfl)
         try simp only [Act.put, List.setIfInBounds_toArray, List.set_cons_zero, List.set_cons_succ]
         refine st_pure (i := 8) (v := ?vta8) rfl (by kernel_rfl) (by kernel_rfl) (by kernel_rfl) (by kernel_rfl) (fun _ _ _ h => h) (by rfl) ?yta8 (.inl (by assumption)) ?rta8
         case yta8 => (intro w; go_simp; try with_reducible rfl)
         try simp only [Act.put, List.setIfInBounds_toArray, List.set_cons_zero, List.set_cons_succ]
         refine st_run (i := 9) (v := ?vta9) rfl (by kernel_rfl) (by kernel_rfl) (by kernel_rfl) (by kernel_rfl) (fun _ _ _ h => h) (by rfl) ?yta9 (by assumption) ?rta9
         case yta9 => (intro w hSw; (try dsimp only at hSw); go_simp; try with_reducible rfl)
         try simp only [Act.put, List.setIfInBounds_toArray, List.set_cons_zero, List.set_cons_succ]
         refine st_pure (i := 11) (v := ?vta11) rfl (by kernel_rfl) (by kernel_rfl) (by kernel_rfl) (by kernel_rfl) (fun _ _ _ h => h) (by rfl) ?yta11 (.inl (by assumption)) ?rta11
         case yta11 => (intro w; go_simp; try with_reducible rfl)
         try simp only [Act.put, List.setIfInBounds_toArray, List.set_cons_zero, List.set_cons_succ]
         have HDm : Hid ((qr.drop m).length = (qr.length - m)) := Lib.hid (by rw [List.length_drop])
         refine st_one (i := 12) rfl (by kernel_rfl) (by rfl) (fun Kq hK => ?_)
         go_simp
         go_at_call 43
         refine (cloneSymO_any (qr.drop m) (some ⟨bq, oq, none⟩) 0 (qr.length - m) S wd1 HDm.out.symm (by rw [HDm.out]; omega) (fun h => absurd (List.drop_eq_nil_of_le (by omega)) h) (fun b hb => by have := HS.out b hb; omega)).mono ?_
         rintro e w11 ⟨A2, c2, rfl, hc21, hc22, hO2, hb11⟩
         rw [HDm.out] at hO2 ⊢
         have HO2 := Lib.hid (And.intro hO2 (And.intro hc21 hc22))
         have HB11 := Lib.hid hb11
         clear hO2 hc21 hc22 hb11
         have kO := HOBwd1.out.below HB11.out HOBwd1.out.lt
         have kG := HGwd1.out.below HB11.out HGwd1.out.lt
         have kQ := (HB11.out.cell (p := ⟨br, orr + k * 2 + 1, none⟩) hbr2).trans hr2
         refine hK.out _ _ ?htac (fun hHeld => ?rtac)
         case htac => ((try dsimp only); exact ⟨kO.cell 3, kG.cell 1, kG.cell 3, kQ⟩)
         clear hK Kq kO kG kQ
         try simp only [Act.put, List.setIfInBounds_toArray, List.set_cons_zero, List.set_cons_succ]
         refine st_pure (i := 13) (v := ?vta13) rfl (by kernel_rfl) (by kernel_rfl) (by kernel_rfl) (by kernel_rfl) (fun _ _ _ h => h) (by rfl) ?yta13 (.inl (by assumption)) ?rta13
         case yta13 => (intro w; go_simp; try with_reducible rfl)
         try simp only [Act.put, List.setIfInBounds_toArray, List.set_cons_zero, List.set_cons_succ]
         refine st_one (i := 14) rfl (by kernel_rfl) (by rfl) (fun Kq hK => ?_)
         go_simp
         obtain ⟨w13, hw13⟩ : ∃ q : World, q = w11.alloc (.cells #[.int .i64 (n : Int), .slice A2 (qr.length - m) c2] 33) := ⟨_, rfl⟩
         rw [← hw13]
         have HY : Hid (Blk' w13 w11.heap.size 33 #[.int .i64 (n : Int), .slice A2 (qr.length - m) c2]) := Lib.hid (by rw [hw13]; exact Blk'.new _ _ _)
         have hb13 : Below wd1.heap.size wd1 w13 := by rw [hw13]; exact HB11.out.alloc HB11.out.size _
         have hba : Below w11.heap.size w11 w13 := by rw [hw13]; exact (Below.refl _ _).alloc (Nat.le_refl _) _
         have HBa := Lib.hid hba
         have HB13 := Lib.hid hb13
         clear hw13 hb13 hba
         have kO := HOBwd1.out.below HB13.out HOBwd1.out.lt
         have kG := HGwd1.out.below HB13.out HGwd1.out.lt
         have kQ := (HB13.out.cell (p := ⟨br, orr + k * 2 + 1, none⟩) hbr2).trans hr2
         refine hK.out _ _ ?htad (fun hHeld => ?rtad)
         case htad => ((try dsimp only); exact ⟨kO.cell 3, kG.cell 1, kG.cell 3, kQ⟩)
         clear hK Kq kO kG kQ
         try simp only [Act.put, List.setIfInBounds_toArray, List.set_cons_zero, List.set_cons_succ]
         refine st_one (i := 15) rfl (by kernel_rfl) (by rfl) (fun Kq hK => ?_)
         have HAt : Hid (At w13 w11.heap.size 0 [.int .i64 (n : Int), .slice A2 (qr.length - m) c2]) := Lib.hid (fun j u hu => by rw [Nat.zero_add, HY.out.cell]; simpa using hu)
         have HO4 := Lib.hid (HOwd1.out.below HB13.out (Nat.le_refl _))
         have HIn : Hid (I64 (n : Int)) := Lib.hid ⟨by omega, by omega⟩
         have HWp := Lib.hid (fun k hk => HOwd1.out.block k hk)
         have HRd : Hid (Dat.rd w13 (OwnT S w8.heap.size (.slice Av oN cv) w13) (⟨(n : Int), qr.drop m⟩ : Rule) [.int .i64 (n : Int), .slice A2 (qr.length - m) c2]) := Lib.hid ⟨_, rfl, HIn.out, Vl.of_slice HDm.out.symm (by rw [HDm.out]; exact HO2.out.2.1) HO2.out.2.2 ((HO2.out.1.symEls.below HBa.out).keep (fun _ _ _ => rfl) (fun b hb => by have h1 := HB11.out.size; have h2 := HBa.out.size; have h3 := hb.1; have h4 := hb.2; exact ⟨.inr (by omega), fun e => by have := (HWp.out b e).2; omega, by omega⟩))⟩
         refine wp_own1 _ _ _ elemRule rfl rfl HO4.out (⟨(n : Int), qr.drop m⟩ : Rule) [.int .i64 (n : Int), .slice A2 (qr.length - m) c2] rfl HAt.out HRd.out (by rw [HOl.out]; omega) (by rw [HOl.out]; omega) (by have := HKwd1.out.size; have := HB13.out.size; omega) ?_
         intro v7 w14 hown7 hg7 hat7
         obtain ⟨A9, k9, hv7, _⟩ := hown7.form
         rw [snoc_len, HOl.out] at hv7
         subst hv7
         have hk14 : Kept (fun b => (Value.slice Av oN cv).ownBlock = some b) w13 w14 := (Kept.refl _ w13).grown hg7 (fun k hk => .inl hk)
         have hx14 : ∀ b, (Value.slice Av oN cv).ownBlock = some b → w8.heap.size ≤ b ∧ b < wd1.heap.size := fun b hb => HWp.out b hb
         have HOBw14 := Lib.hid ((HOBwd1.out.below HB13.out HOBwd1.out.lt).kept hk14 (fun h => by have := hx14 _ h; omega))
         have HLw14 := Lib.hid ((HLwd1.out.below HB13.out HLwd1.out.lt).kept hk14 (fun h => by have := hx14 _ h; omega))
         have HGw14 := Lib.hid ((HGwd1.out.below HB13.out HGwd1.out.lt).kept hk14 (fun h => by have := hx14 _ h; omega))
         have HSw14 := Lib.hid ((HSwd1.out.below HB13.out HSwd1.out.lt).kept hk14 (fun h => by have := hx14 _ h; omega))
         have HKw14 := Lib.hid ((HKwd1.out.below HB13.out).later hk14 (fun b hb => .inl (.inr (.inr (hx14 b hb).1))))
         have H7 := Lib.hid hown7
         have zzw14 : w13.heap.size ≤ w14.heap.size := hk14.size
         have zz13 : wd1.heap.size ≤ w13.heap.size := HB13.out.size
         have kQ : w14.cell? ⟨br, orr + k * 2 + 1, none⟩ = some (.slice (some ⟨bq, oq, none⟩) qr.length cq) := by rw [hk14.cell (p := ⟨br, orr + k * 2 + 1, none⟩) (by show br < w13.heap.size; omega) (fun h => by have h1 := hx14 _ h; have h2 := hbS; (try dsimp only at h1); omega), HB13.out.cell (p := ⟨br, orr + k * 2 + 1, none⟩) hbr2]; exact hr2
         refine hK.out _ _ ?htae (fun hHeld => ?rtae)
         case htae => ((try dsimp only); exact ⟨HOBw14.out.cell 3, HGw14.out.cell 1, HGw14.out.cell 3, kQ⟩)
         clear hK Kq kQ hown7 hg7 hat7 hk14
         try simp only [Act.put, List.setIfInBounds_toArray, List.set_cons_zero, List.set_cons_succ]
         refine st_pure (i := 16) (v := ?vta16) rfl (by kernel_rfl) (by kernel_rfl) (by kernel_rfl) (by kernel_rfl) (fun _ _ _ h => h) (by rfl) ?yta16 (.inl (by assumption)) ?rta16
         case yta16 => (intro w; go_simp; try with_reducible rfl)
         try simp only [Act.put, List.setIfInBounds_toArray, List.set_cons_zero, List.set_cons_succ]
         have cOB0 : w14.cell? ⟨OB, 0, none⟩ = some (.int .i64 gt) := HOBw14.out.cell 0
         have cOB1 : w14.cell? ⟨OB, 1, none⟩ = some (.int .i64 ((n : Int) + 1)) := HOBw14.out.cell 1
         have cOB2 : w14.cell? ⟨OB, 2, none⟩ = some (.int .i64 gs) := HOBw14.out.cell 2
         have cOB3 : w14.cell? ⟨OB, 3, none⟩ = some (.slice Av oN cv) := HOBw14.out.cell 3
         have fOB0 := HOBw14.out.frozen 0
         have fOB1 := HOBw14.out.frozen 1
         have fOB2 := HOBw14.out.frozen 2
         have fOB3 := HOBw14.out.frozen 3
         have zOB := HOBw14.out.lt
         refine st_late (i := 17) rfl (by kernel_rfl) (by rfl) (by kernel_rfl) (fun Kq hK => ?_)
         go_simp
         refine hK.out _ _ ?_
         clear hK Kq
         try simp only [Act.put, List.setIfInBounds_toArray, List.set_cons_zero, List.set_cons_succ]
         clear cOB0 cOB1 cOB2 cOB3 fOB0 fOB1 fOB2 fOB3 zOB
         refine wpAnyD_done (by kernel_rfl) ?_ _
         refine NoPanic.normal ?_
         have hO9 := HOBw14.out.set_ 3 (.slice A9 (oN + 1) k9)
         have hk9 : Kept (fun b => b = OB) w14 (w14.setCell ⟨OB, 3, none⟩ (.slice A9 (oN + 1) k9)) := (Kept.refl (fun b => b = OB) w14).setCell (p := ⟨OB, 3, none⟩) (.inl rfl) _
         have hOn9 := H7.out.setCell (p := ⟨OB, 3, none⟩) (fun e => by have h9 := (H7.out.block _ e).1; dsimp only at h9; omega) (by rintro (h | h); (have := HS.out _ h; dsimp only at this; omega); (dsimp only at h; omega)) (.slice A9 (oN + 1) k9)
         have e1 : (k0 :: l').take (p + 1) = (k0 :: l').take p ++ [k] := take_snoc HPk.out
         have hL9 := HLw14.out.kept hk9 (by omega)
         have hK9 := HKw14.out.later hk9 (fun b hb => .inl (.inl hb))
         generalize hwF : World.setCell _ _ _ = wF
         rw [hwF] at hO9 hk9 hOn9 hL9 hK9
         clear hwF
         go_wp2
         go_roundw
         case rel =>
          exact ⟨p + 1, _, hpl, by rw [Int.natCast_add]; rfl, by rw [e1, List.map_append, ← List.append_assoc, List.map_cons, List.map_nil, rulN_of (g := ⟨gt, (n : Int), gs, rs⟩) HQ.out]; exact hOn9, hO9, hL9, hK9⟩
         case measure => simp [intOf]; omega
        ·have hm0 : (0 : Int) ≤ (m : Int) := by omega
         have hm1 : (m : Int) ≤ (cq : Int) := by have := HRc.out.1; omega
         have hm2 : (m : Int) ≤ (qr.length : Int) := by omega
         have cOB0 : w10.cell? ⟨OB, 0, none⟩ = some (.int .i64 gt) := HOBw10.out.cell 0
         have cOB1 : w10.cell? ⟨OB, 1, none⟩ = some (.int .i64 ((n : Int) + 1)) := HOBw10.out.cell 1
         have cOB2 : w10.cell? ⟨OB, 2, none⟩ = some (.int .i64 gs) := HOBw10.out.cell 2
         have cOB3 : w10.cell? ⟨OB, 3, none⟩ = some (.slice Av oN cv) := HOBw10.out.cell 3
         have zOB := HOBw10.out.lt
         have cG0 : w10.cell? ⟨w.heap.size, 0, none⟩ = some (.int .i64 gt) := HGw10.out.cell 0
         have cG1 : w10.cell? ⟨w.heap.size, 1, none⟩ = some (.int .i64 (n : Int)) := HGw10.out.cell 1
         have cG2 : w10.cell? ⟨w.heap.size, 2, none⟩ = some (.int .i64 gs) := HGw10.out.cell 2
         have cG3 : w10.cell? ⟨w.heap.size, 3, none⟩ = some (.slice (some ⟨br, orr, none⟩) rs.length c) := HGw10.out.cell 3
         have zG := HGw10.out.lt
         refine wp_region_noPanic ?_
         refine stage_start (S := (fun w' => w'.cell? ⟨OB, 3, none⟩ = some (.slice Av oN cv) ∧ w'.cell? ⟨w.heap.size, 1, none⟩ = some (.int .i64 (n : Int)) ∧ w'.cell? ⟨w.heap.size, 3, none⟩ = some (.slice (some ⟨br, orr, none⟩) rs.length c) ∧ w'.cell? ⟨br, orr + k * 2 + 1, none⟩ = some (.slice (some ⟨bq, oq, none⟩) qr.length cq))) 17 (by kernel_rfl) ?htb (fun hHeld => ?btb)
         case htb => ((try dsimp only); go_keep)
         clear cOB0 cOB1 cOB2 cOB3 zOB cG0 cG1 cG2 cG3 zG
         obtain ⟨wd1, hwd1⟩ : ∃ q : World, q = w10.drew := ⟨_, rfl⟩
         rw [← hwd1] at hHeld ⊢
         have hbd : Below w10.heap.size w10 wd1 := by rw [hwd1]; exact (Below.refl _ _).drew
         have hr2 : wd1.cell? ⟨br, orr + k * 2 + 1, none⟩ = some (.slice (some ⟨bq, oq, none⟩) qr.length cq) := by rw [hbd.cell (p := ⟨br, orr + k * 2 + 1, none⟩) hbr10]; exact hr1
         have hbr2 : br < wd1.heap.size := Nat.lt_of_lt_of_le hbr10 hbd.size
         clear hwd1
         have HOBwd1 := Lib.hid (HOBw10.out.below hbd HOBw10.out.lt)
         have HLwd1 := Lib.hid (HLw10.out.below hbd HLw10.out.lt)
         have HGwd1 := Lib.hid (HGw10.out.below hbd HGw10.out.lt)
         have HSwd1 := Lib.hid (HSw10.out.below hbd HSw10.out.lt)
         have HOwd1 := Lib.hid (HOw10.out.below hbd (Nat.le_refl _))
         have ERwd1 := Lib.hid (ERw10.out.below hbd)
         have ELwd1 := Lib.hid (ELw10.out.below hbd)
         have EQwd1 := Lib.hid (EQw10.out.below hbd)
         have HKwd1 := Lib.hid (HKw10.out.below hbd)
         have zzwd1 : w10.heap.size ≤ wd1.heap.size := hbd.size
         clear HOBw10 HLw10 HGw10 HSw10 HOw10 ERw10 ELw10 EQw10 HKw10
         clear hbd
         refine st_pure (i := 0) (v := ?vtb0) rfl (by kernel_rfl) (by kernel_rfl) (by kernel_rfl) (by kernel_rfl) (fun _ _ _ h => h) (by rfl) ?ytb0 (.inl (by assumption)) ?rtb0
         case ytb0 => (intro w; go_simp; try with_reducible rfl)
         try simp only [Act.put, List.setIfInBounds_toArray, List.set_cons_zero, List.set_cons_succ]
         refine st_pure (i := 2) (v := ?vtb2) rfl (by kernel_rfl) (by kernel_rfl) (by kernel_rfl) (by kernel_rfl) (fun _ _ _ h => h) (by rfl) ?ytb2 (.inl (by assumption)) ?rtb2
         case ytb2 => (intro w; go_simp; try with_reducible rfl)
         try simp only [Act.put, List.setIfInBounds_toArray, List.set_cons_zero, List.set_cons_succ]
         refine st_pure (i := 4) (v := ?vtb4) rfl (by kernel_rfl) (by kernel_rfl) (by kernel_rfl) (by kernel_rfl) (fun _ _ _ h => h) (by rfl) ?ytb4 (.inl (by assumption)) ?rtb4
         case ytb4 => (intro w; go_simp; try with_reducible rfl)
         try simp only [Act.put, List.setIfInBounds_toArray, List.set_cons_zero, List.set_cons_succ]
         refine st_pure (i := 6) (v := ?vtb6) rfl (by kernel_rfl) (by kernel_rfl) (by kernel_rfl) (by kernel_rfl) (fun _ _ _ h => h) (by rfl) ?ytb6 (.inl (by assumption)) ?rtb6
         case ytb6 => (intro w; go_simp; try with_reducible rfl)
         try simp only [Act.put, List.setIfInBounds_toArray, List.set_cons_zero, List.set_cons_succ]
         refine st_pure (i := 10) (v := ?vtb10) rfl (by kernel_rfl) (by kernel_rfl) (by kernel_rfl) (by kernel_rfl) (fun _ _ _ h => h) (by rfl) ?ytb10 (.inl (by assumption)) ?rtb10
         case ytb10 => (intro w; go_simp; try with_reducible rfl)
         try simp only [Act.put, List.setIfInBounds_toArray, List.set_cons_zero, List.set_cons_succ]
         refine st_run (i := 1) (v := ?vtb1) rfl (by kernel_rfl) (by kernel_rfl) (by kernel_rfl) (by kernel_rfl) (fun _ _ _ h => h) (by rfl) ?ytb1 (by assumption) ?rtb1
         case ytb1 => (intro w hSw; (try dsimp only at hSw); go_simp; try with_reducible rfl)
         try simp only [Act.put, List.setIfInBounds_toArray, List.set_cons_zero, List.set_cons_succ]
         refine st_run (i := 3) (v := ?vtb3) rfl (by kernel_rfl) (by kernel_rfl) (by kernel_rfl) (by kernel_rfl) (fun _ _ _ h => h) (by rfl) ?ytb3 (by assumption) ?rtb3
         case ytb3 => (intro w hSw; (try dsimp only at hSw); go_simp; try with_reducible rfl)
         try simp only [Act.put, List.setIfInBounds_toArray, List.set_cons_zero, List.set_cons_succ]
         refine st_run (i := 5) (v := ?vtb5) rfl (by kernel_rfl) (by kernel_rfl) (by kernel_rfl) (by kernel_rfl) (fun _ _ _ h => h) (by rfl) ?ytb5 (by assumption) ?rtb5
         case ytb5 => (intro w hSw; (try dsimp only at hSw); go_simp; try with_reducible rfl)
         try simp only [Act.put, List.setIfInBounds_toArray, List.set_cons_zero, List.set_cons_succ]
         refine st_pure (i := 7) (v := ?vtb7) rfl (by kernel_rfl) (by kernel_rfl) (by kernel_rfl) (by kernel_rfl) (fun _ _ _ h => h) (by rfl) ?ytb7 (.inl (by assumption)) ?rtb7
         case ytb7 => (intro w; go_simp; try with_reducible rfl)
         try simp only [Act.put, List.setIfInBounds_toArray, List.set_cons_zero, List.set_cons_succ]
         refine st_pure (i := 8) (v := ?vtb8) rfl (by kernel_rfl) (by kernel_rfl) (by kernel_rfl) (by kernel_rfl) (fun _ _ _ h => h) (by rfl) ?ytb8 (.inl (by assumption)) ?rtb8
         case ytb8 => (intro w; go_simp; try with_reducible rfl)
         try simp only [Act.put, List.setIfInBounds_toArray, List.set_cons_zero, List.set_cons_succ]
         refine st_run (i := 9) (v := ?vtb9) rfl (by kernel_rfl) (by kernel_rfl) (by kernel_rfl) (by kernel_rfl) (fun _ _ _ h => h) (by rfl) ?ytb9 (by assumption) ?rtb9
         case ytb9 => (intro w hSw; (try dsimp only at hSw); go_simp; try with_reducible rfl)
         try simp only [Act.put, List.setIfInBounds_toArray, List.set_cons_zero, List.set_cons_succ]
         refine st_pure (i := 11) (v := ?vtb11) rfl (by kernel_rfl) (by kernel_rfl) (by kernel_rfl) (by kernel_rfl) (fun _ _ _ h => h) (by rfl) ?ytb11 (.inl (by assumption)) ?rtb11
         case ytb11 => (intro w; go_simp; try with_reducible rfl)
         try simp only [Act.put, List.setIfInBounds_toArray, List.set_cons_zero, List.set_cons_succ]
         have HDm : Hid ((qr.drop m).length = (qr.length - m)) := Lib.hid (by rw [List.length_drop])
         refine st_one (i := 12) rfl (by kernel_rfl) (by rfl) (fun Kq hK => ?_)
         go_simp
         go_at_call 43
         refine (cloneSymO_any (qr.drop m) (some ⟨bq, oq + m * 2, none⟩) (cq - m) (qr.length - m) S wd1 HDm.out.symm (by rw [HDm.out]; omega) (EQwd1.out.dropS m) (fun b hb => by have := HS.out b hb; omega)).mono ?_
         rintro e w11 ⟨A2, c2, rfl, hc21, hc22, hO2, hb11⟩
         rw [HDm.out] at hO2 ⊢
         have HO2 := Lib.hid (And.intro hO2 (And.intro hc21 hc22))
         have HB11 := Lib.hid hb11
         clear hO2 hc21 hc22 hb11
         have kO := HOBwd1.out.below HB11.out HOBwd1.out.lt
         have kG := HGwd1.out.below HB11.out HGwd1.out.lt
         have kQ := (HB11.out.cell (p := ⟨br, orr + k * 2 + 1, none⟩) hbr2).trans hr2
         refine hK.out _ _ ?htbc (fun hHeld => ?rtbc)
         case htbc => ((try dsimp only); exact ⟨kO.cell 3, kG.cell 1, kG.cell 3, kQ⟩)
         clear hK Kq kO kG kQ
         try simp only [Act.put, List.setIfInBounds_toArray, List.set_cons_zero, List.set_cons_succ]
         refine st_pure (i := 13) (v := ?vtb13) rfl (by kernel_rfl) (by kernel_rfl) (by kernel_rfl) (by kernel_rfl) (fun _ _ _ h => h) (by rfl) ?ytb13 (.inl (by assumption)) ?rtb13
         case ytb13 => (intro w; go_simp; try with_reducible rfl)
         try simp only [Act.put, List.setIfInBounds_toArray, List.set_cons_zero, List.set_cons_succ]
         refine st_one (i := 14) rfl (by kernel_rfl) (by rfl) (fun Kq hK => ?_)
         go_simp
         obtain ⟨w13, hw13⟩ : ∃ q : World, q = w11.alloc (.cells #[.int .i64 (n : Int), .slice A2 (qr.length - m) c2] 33) := ⟨_, rfl⟩
         rw [← hw13]
         have HY : Hid (Blk' w13 w11.heap.size 33 #[.int .i64 (n : Int), .slice A2 (qr.length - m) c2]) := Lib.hid (by rw [hw13]; exact Blk'.new _ _ _)
         have hb13 : Below wd1.heap.size wd1 w13 := by rw [hw13]; exact HB11.out.alloc HB11.out.size _
         have hba : Below w11.heap.size w11 w13 := by rw [hw13]; exact (Below.refl _ _).alloc (Nat.le_refl _) _
         have HBa := Lib.hid hba
         have HB13 := Lib.hid hb13
         clear hw13 hb13 hba
         have kO := HOBwd1.out.below HB13.out HOBwd1.out.lt
         have kG := HGwd1.out.below HB13.out HGwd1.out.lt
         have kQ := (HB13.out.cell (p := ⟨br, orr + k * 2 + 1, none⟩) hbr2).trans hr2
         refine hK.out _ _ ?htbd (fun hHeld => ?rtbd)
         case htbd => ((try dsimp only); exact ⟨kO.cell 3, kG.cell 1, kG.cell 3, kQ⟩)
         clear hK Kq kO kG kQ
         try simp only [Act.put, List.setIfInBounds_toArray, List.set_cons_zero, List.set_cons_succ]
         refine st_one (i := 15) rfl (by kernel_rfl) (by rfl) (fun Kq hK => ?_)
         have HAt : Hid (At w13 w11.heap.size 0 [.int .i64 (n : Int), .slice A2 (qr.length - m) c2]) := Lib.hid (fun j u hu => by rw [Nat.zero_add, HY.out.cell]; simpa using hu)
         have HO4 := Lib.hid (HOwd1.out.below HB13.out (Nat.le_refl _))
         have HIn : Hid (I64 (n : Int)) := Lib.hid ⟨by omega, by omega⟩
         have HWp := Lib.hid (fun k hk => HOwd1.out.block k hk)
         have HRd : Hid (Dat.rd w13 (OwnT S w8.heap.size (.slice Av oN cv) w13) (⟨(n : Int), qr.drop m⟩ : Rule) [.int .i64 (n : Int), .slice A2 (qr.length - m) c2]) := Lib.hid ⟨_, rfl, HIn.out, Vl.of_slice HDm.out.symm (by rw [HDm.out]; exact HO2.out.2.1) HO2.out.2.2 ((HO2.out.1.symEls.below HBa.out).keep (fun _ _ _ => rfl) (fun b hb => by have h1 := HB11.out.size; have h2 := HBa.out.size; have h3 := hb.1; have h4 := hb.2; exact ⟨.inr (by omega), fun e => by have := (HWp.out b e).2; omega, by omega⟩))⟩
         refine wp_own1 _ _ _ elemRule rfl rfl HO4.out (⟨(n : Int), qr.drop m⟩ : Rule) [.int .i64 (n : Int), .slice A2 (qr.length - m) c2] rfl HAt.out HRd.out (by rw [HOl.out]; omega) (by rw [HOl.out]; omega) (by have := HKwd1.out.size; have := HB13.out.size; omega) ?_
         intro v7 w14 hown7 hg7 hat7
         obtain ⟨A9, k9, hv7, _⟩ := hown7.form
         rw [snoc_len, HOl.out] at hv7
         subst hv7
         have hk14 : Kept (fun b => (Value.slice Av oN cv).ownBlock = some b) w13 w14 := (Kept.refl _ w13).grown hg7 (fun k hk => .inl hk)
         have hx14 : ∀ b, (Value.slice Av oN cv).ownBlock = some b → w8.heap.size ≤ b ∧ b < wd1.heap.size := fun b hb => HWp.out b hb
         have HOBw14 := Lib.hid ((HOBwd1.out.below HB13.out HOBwd1.out.lt).kept hk14 (fun h => by have := hx14 _ h; omega))
         have HLw14 := Lib.hid ((HLwd1.out.below HB13.out HLwd1.out.lt).kept hk14 (fun h => by have := hx14 _ h; omega))
         have HGw14 := Lib.hid ((HGwd1.out.below HB13.out HGwd1.out.lt).kept hk14 (fun h => by have := hx14 _ h; omega))
         have HSw14 := Lib.hid ((HSwd1.out.below HB13.out HSwd1.out.lt).kept hk14 (fun h => by have := hx14 _ h; omega))
         have HKw14 := Lib.hid ((HKwd1.out.below HB13.out).later hk14 (fun b hb => .inl (.inr (.inr (hx14 b hb).1))))
         have H7 := Lib.hid hown7
         have zzw14 : w13.heap.size ≤ w14.heap.size := hk14.size
         have zz13 : wd1.heap.size ≤ w13.heap.size := HB13.out.size
         have kQ : w14.cell? ⟨br, orr + k * 2 + 1, none⟩ = some (.slice (some ⟨bq, oq, none⟩) qr.length cq) := by rw [hk14.cell (p := ⟨br, orr + k * 2 + 1, none⟩) (by show br < w13.heap.size; omega) (fun h => by have h1 := hx14 _ h; have h2 := hbS; (try dsimp only at h1); omega), HB13.out.cell (p := ⟨br, orr + k * 2 + 1, none⟩) hbr2]; exact hr2
         refine hK.out _ _ ?htbe (fun hHeld => ?rtbe)
         case htbe => ((try dsimp only); exact ⟨HOBw14.out.cell 3, HGw14.out.cell 1, HGw14.out.cell 3, kQ⟩)
         clear hK Kq kQ hown7 hg7 hat7 hk14
         try simp only [Act.put, List.setIfInBounds_toArray, List.set_cons_zero, List.set_cons_succ]
         refine st_pure (i := 16) (v := ?vtb16) rfl (by kernel_rfl) (by kernel_rfl) (by kernel_rfl) (by kernel_rfl) (fun _ _ _ h => h) (by rfl) ?ytb16 (.inl (by assumption)) ?rtb16
         case ytb16 => (intro w; go_simp; try with_reducible rfl)
         try simp only [Act.put, List.setIfInBounds_toArray, List.set_cons_zero, List.set_cons_succ]
         have cOB0 : w14.cell? ⟨OB, 0, none⟩ = some (.int .i64 gt) := HOBw14.out.cell 0
         have cOB1 : w14.cell? ⟨OB, 1, none⟩ = some (.int .i64 ((n : Int) + 1)) := HOBw14.out.cell 1
         have cOB2 : w14.cell? ⟨OB, 2, none⟩ = some (.int .i64 gs) := HOBw14.out.cell 2
         have cOB3 : w14.cell? ⟨OB, 3, none⟩ = some (.slice Av oN cv) := HOBw14.out.cell 3
         have fOB0 := HOBw14.out.frozen 0
         have fOB1 := HOBw14.out.frozen 1
         have fOB2 := HOBw14.out.frozen 2
         have fOB3 := HOBw14.out.frozen 3
         have zOB := HOBw14.out.lt
         refine st_late (i := 17) rfl (by kernel_rfl) (by rfl) (by kernel_rfl) (fun Kq hK => ?_)
         go_simp
         refine hK.out _ _ ?_
         clear hK Kq
         try simp only [Act.put, List.setIfInBounds_toArray, List.set_cons_zero, List.set_cons_succ]
         clear cOB0 cOB1 cOB2 cOB3 fOB0 fOB1 fOB2 fOB3 zOB
         refine wpAnyD_done (by kernel_rfl) ?_ _
         refine NoPanic.normal ?_
         have hO9 := HOBw14.out.set_ 3 (.slice A9 (oN + 1) k9)
         have hk9 : Kept (fun b => b = OB) w14 (w14.setCell ⟨OB, 3, none⟩ (.slice A9 (oN + 1) k9)) := (Kept.refl (fun b => b = OB) w14).setCell (p := ⟨OB, 3, none⟩) (.inl rfl) _
         have hOn9 := H7.out.setCell (p := ⟨OB, 3, none⟩) (fun e => by have h9 := (H7.out.block _ e).1; dsimp only at h9; omega) (by rintro (h | h); (have := HS.out _ h; dsimp only at this; omega); (dsimp only at h; omega)) (.slice A9 (oN + 1) k9)
         have e1 : (k0 :: l').take (p + 1) = (k0 :: l').take p ++ [k] := take_snoc HPk.out
         have hL9 := HLw14.out.kept hk9 (by omega)
         have hK9 := HKw14.out.later hk9 (fun b hb => .inl (.inl hb))
         generalize hwF : World.setCell _ _ _ = wF
         rw [hwF] at hO9 hk9 hOn9 hL9 hK9
         clear hwF
         go_wp2
         go_roundw
         case rel =>
          exact ⟨p + 1, _, hpl, by rw [Int.natCast_add]; rfl, by rw [e1, List.map_append, ← List.append_assoc, List.map_cons, List.map_nil, rulN_of (g := ⟨gt, (n : Int), gs, rs⟩) HQ.out]; exact hOn9, hO9, hL9, hK9⟩
         case measure => simp [intOf]; omega
       ·have hpe : p = (k0 :: l').length := by show p = l'.length + 1; have : p ≤ l'.length + 1 := hp; omega
        subst hpe
        obtain ⟨RL, hRL⟩ : ∃ RL : List Rule, RL = (facG ⟨gt, (n : Int), gs, rs⟩ (k0 :: l') m).rules := ⟨_, rfl⟩
        have HRL : Hid (((keepK (k0 :: l') rs.length).map (facRule ⟨gt, (n : Int), gs, rs⟩ (k0 :: l') m) ++ (k0 :: l').map (fun k => (⟨(n : Int), (rulN ⟨gt, (n : Int), gs, rs⟩ k).right.drop m⟩ : Rule))) = RL) := Lib.hid hRL.symm
        have HOe : Hid (Own wi S w8.heap.size 33 (.slice Av RL.length cv) RL) := Lib.hid (by have h := HOw.out; rw [List.take_length] at h; rw [show ((keepK (k0 :: l') rs.length).map (facRule ⟨gt, (n : Int), gs, rs⟩ (k0 :: l') m) ++ (k0 :: l').map (fun k => (⟨(n : Int), (rulN ⟨gt, (n : Int), gs, rs⟩ k).right.drop m⟩ : Rule))) = RL from HRL.out] at h; exact h)
        have HOBe : Hid (Blk' wi OB 25 #[.int .i64 gt, .int .i64 ((n : Int) + 1), .int .i64 gs, .slice Av RL.length cv]) := Lib.hid (by have h := HOi.out; rw [List.take_length] at h; rw [show ((keepK (k0 :: l') rs.length).map (facRule ⟨gt, (n : Int), gs, rs⟩ (k0 :: l') m) ++ (k0 :: l').map (fun k => (⟨(n : Int), (rulN ⟨gt, (n : Int), gs, rs⟩ k).right.drop m⟩ : Rule))) = RL from HRL.out] at h; exact h)
        clear hRL HOw HOi
        have HHd := Lib.hid (rfl : facHd (k0 :: l') = facHd (k0 :: l'))
        obtain ⟨hd, hhd⟩ : ∃ hd : Int, hd = facHd (k0 :: l') := ⟨_, rfl⟩
        rw [← hhd] at HSi
        have HHe := Lib.hid hhd
        clear hhd HHd
        have HOBwi := HOBe
        have HSwi := HSi
        have HR4wi := HR4i
        have HR5wi := HR5i
        have cOB0 : wi.cell? ⟨OB, 0, none⟩ = some (.int .i64 gt) := HOBwi.out.cell 0
        have cOB1 : wi.cell? ⟨OB, 1, none⟩ = some (.int .i64 ((n : Int) + 1)) := HOBwi.out.cell 1
        have cOB2 : wi.cell? ⟨OB, 2, none⟩ = some (.int .i64 gs) := HOBwi.out.cell 2
        have cOB3 : wi.cell? ⟨OB, 3, none⟩ = some (.slice Av RL.length cv) := HOBwi.out.cell 3
        have zOB := HOBwi.out.lt
        have cS0 : wi.cell? ⟨SB, 0, none⟩ = some (.int .i64 (m : Int)) := HSwi.out.cell 0
        have cS1 : wi.cell? ⟨SB, 1, none⟩ = some (.int .i64 hd) := HSwi.out.cell 1
        have cS2 : wi.cell? ⟨SB, 2, none⟩ = some (.slice (some ⟨gT, 0, none⟩) rs.length rs.length) := HSwi.out.cell 2
        have cS3 : wi.cell? ⟨SB, 3, none⟩ = some (.slice (some ⟨gL, 0, none⟩) rs.length rs.length) := HSwi.out.cell 3
        have cS4 : wi.cell? ⟨SB, 4, none⟩ = some (.int .i64 gt) := HSwi.out.cell 4
        have cS5 : wi.cell? ⟨SB, 5, none⟩ = some (.int .i64 (n : Int)) := HSwi.out.cell 5
        have cS6 : wi.cell? ⟨SB, 6, none⟩ = some (.int .i64 gs) := HSwi.out.cell 6
        have cS7 : wi.cell? ⟨SB, 7, none⟩ = some (.slice (some ⟨br, orr, none⟩) rs.length c) := HSwi.out.cell 7
        have zS := HSwi.out.lt
        have cR40 : wi.cell? ⟨w.heap.size + 1, 0, none⟩ = some (.int .i64 0) := HR4wi.out.cell 0
        have cR41 : wi.cell? ⟨w.heap.size + 1, 1, none⟩ = some (.int .i64 0) := HR4wi.out.cell 1
        have cR42 : wi.cell? ⟨w.heap.size + 1, 2, none⟩ = some (.int .i64 0) := HR4wi.out.cell 2
        have cR43 : wi.cell? ⟨w.heap.size + 1, 3, none⟩ = some (.slice none 0 0) := HR4wi.out.cell 3
        have fR40 := HR4wi.out.frozen 0
        have fR41 := HR4wi.out.frozen 1
        have fR42 := HR4wi.out.frozen 2
        have fR43 := HR4wi.out.frozen 3
        have zR4 := HR4wi.out.lt
        have cR50 : wi.cell? ⟨w.heap.size + 1 + 1, 0, none⟩ = some (.int .i64 0) := HR5wi.out.cell 0
        have cR51 : wi.cell? ⟨w.heap.size + 1 + 1, 1, none⟩ = some (.int .i64 0) := HR5wi.out.cell 1
        have cR52 : wi.cell? ⟨w.heap.size + 1 + 1, 2, none⟩ = some (.slice none 0 0) := HR5wi.out.cell 2
        have cR53 : wi.cell? ⟨w.heap.size + 1 + 1, 3, none⟩ = some (.slice none 0 0) := HR5wi.out.cell 3
        have cR54 : wi.cell? ⟨w.heap.size + 1 + 1, 4, none⟩ = some (.int .i64 0) := HR5wi.out.cell 4
        have cR55 : wi.cell? ⟨w.heap.size + 1 + 1, 5, none⟩ = some (.int .i64 0) := HR5wi.out.cell 5
        have cR56 : wi.cell? ⟨w.heap.size + 1 + 1, 6, none⟩ = some (.int .i64 0) := HR5wi.out.cell 6
        have cR57 : wi.cell? ⟨w.heap.size + 1 + 1, 7, none⟩ = some (.slice none 0 0) := HR5wi.out.cell 7
        have fR50 := HR5wi.out.frozen 0
        have fR51 := HR5wi.out.frozen 1
        have fR52 := HR5wi.out.frozen 2
        have fR53 := HR5wi.out.frozen 3
        have fR54 := HR5wi.out.frozen 4
        have fR55 := HR5wi.out.frozen 5
        have fR56 := HR5wi.out.frozen 6
        have fR57 := HR5wi.out.frozen 7
        have zR5 := HR5wi.out.lt
        have nn := HB8.out.size
        have x1 : ¬ OB = w.heap.size + 1 := by omega
        have x2 : ¬ OB = w.heap.size + 1 + 1 := by omega
        have x3 : ¬ SB = w.heap.size + 1 := by omega
        have x4 : ¬ SB = w.heap.size + 1 + 1 := by omega
        have x5 : ¬ w.heap.size + 1 = OB := by omega
        have x6 : ¬ w.heap.size + 1 + 1 = OB := by omega
        have x7 : ¬ w.heap.size + 1 = SB := by omega
        have x8 : ¬ w.heap.size + 1 + 1 = SB := by omega
        go_upto_region 26 with (fail)
        go_region
        all_goals
         go_wp2_with fail
         generalize hwF : World.setCell _ _ _ = wF
         have hr4 : Blk' wi (w.heap.size + 1) 25 #[.int .i64 0, .int .i64 0, .int .i64 0, .slice none 0 0] := HR4i.out
         have hr5 : Blk' wi (w.heap.size + 1 + 1) 70 #[.int .i64 0, .int .i64 0, .slice none 0 0, .slice none 0 0, .int .i64 0, .int .i64 0, .int .i64 0, .slice none 0 0] := HR5i.out
         obtain ⟨hRM, kM⟩ := set4F hr4 (.int .i64 gt) (.int .i64 ((n : Int) + 1)) (.int .i64 gs) (.slice Av RL.length cv)
         obtain ⟨hQF, kF⟩ := set8 (hr5.kept kM (fun h => by omega)) (.int .i64 (m : Int)) (.int .i64 hd) (.slice (some ⟨gT, 0, none⟩) rs.length rs.length) (.slice (some ⟨gL, 0, none⟩) rs.length rs.length) (.int .i64 gt) (.int .i64 (n : Int)) (.int .i64 gs) (.slice (some ⟨br, orr, none⟩) rs.length c)
         have hRF := hRM.kept kF (fun h => by omega)
         have kT := (kM.mono (Y := fun b => b = w.heap.size + 1 ∨ b = w.heap.size + 1 + 1) (fun b _ h => .inl h)).trans (kF.mono (fun b _ h => .inr h))
         rw [hwF] at hRF hQF kT
         clear hwF hr4 hr5 hRM kM kF
         have u0 : wF.cell? ⟨w.heap.size + 1, 0, none⟩ = some (.int .i64 gt) := hRF.cell 0
         have u1 : wF.cell? ⟨w.heap.size + 1, 1, none⟩ = some (.int .i64 ((n : Int) + 1)) := hRF.cell 1
         have u2 : wF.cell? ⟨w.heap.size + 1, 2, none⟩ = some (.int .i64 gs) := hRF.cell 2
         have u3 : wF.cell? ⟨w.heap.size + 1, 3, none⟩ = some (.slice Av RL.length cv) := hRF.cell 3
         have o0 : wF.cell? ⟨w.heap.size + 1 + 1, 0, none⟩ = some (.int .i64 (m : Int)) := hQF.cell 0
         have o1 : wF.cell? ⟨w.heap.size + 1 + 1, 1, none⟩ = some (.int .i64 hd) := hQF.cell 1
         have o2 : wF.cell? ⟨w.heap.size + 1 + 1, 2, none⟩ = some (.slice (some ⟨gT, 0, none⟩) rs.length rs.length) := hQF.cell 2
         have o3 : wF.cell? ⟨w.heap.size + 1 + 1, 3, none⟩ = some (.slice (some ⟨gL, 0, none⟩) rs.length rs.length) := hQF.cell 3
         have o4 : wF.cell? ⟨w.heap.size + 1 + 1, 4, none⟩ = some (.int .i64 gt) := hQF.cell 4
         have o5 : wF.cell? ⟨w.heap.size + 1 + 1, 5, none⟩ = some (.int .i64 (n : Int)) := hQF.cell 5
         have o6 : wF.cell? ⟨w.heap.size + 1 + 1, 6, none⟩ = some (.int .i64 gs) := hQF.cell 6
         have o7 : wF.cell? ⟨w.heap.size + 1 + 1, 7, none⟩ = some (.slice (some ⟨br, orr, none⟩) rs.length c) := hQF.cell 7
         have zF := kT.size
         have kW : Kept (fun b => b = w.heap.size + 1 ∨ b = w.heap.size + 1 + 1) wi wF := kT
         have hEl : Els wF (fun b => (S b ∨ w.heap.size ≤ b) ∧ b < wF.heap.size) RL Av := ((HOe.out.vl.els.2.2.2).keep (S' := fun b => (S b ∨ w8.heap.size ≤ b) ∧ b < wF.heap.size) (fun p hp hlt => kW.cell hlt (fun h => by rcases hp.1 with h1 | h1; (have := HS.out _ h1; omega); omega)) (fun b hb => ⟨hb.1, by have h1 := hb.2; have h2 := kW.size; omega⟩)).keep (fun _ _ _ => rfl) (fun b hb => ⟨by rcases hb.1 with h1 | h1; exact .inl h1; exact .inr (by omega), hb.2⟩)
         have hT9 := HTt.out.kept kW (fun h => by omega)
         have hL9 := HTi.out.kept kW (fun h => by omega)
         have hB9 := HBi.out.trans (kW.to_below (B := w.heap.size) (fun b hb => by omega) HBi.out.size)
         refine bodyPost_ret (v := .tuple #[.agg #[.int .i64 gt, .int .i64 ((n : Int) + 1), .int .i64 gs, .slice Av RL.length cv], .agg #[.int .i64 (m : Int), .int .i64 hd, .slice (some ⟨gT, 0, none⟩) rs.length rs.length, .slice (some ⟨gL, 0, none⟩) rs.length rs.length, .int .i64 gt, .int .i64 (n : Int), .int .i64 gs, .slice (some ⟨br, orr, none⟩) rs.length c]]) (by simp [results, Try.results42, go_sem, u0, u1, u2, u3, o0, o1, o2, o3, o4, o5, o6, o7]) rfl ?_
         unfold RetNxtS
         rw [← HMf.out, ← HHe.out, show (facG ⟨gt, (n : Int), gs, rs⟩ (k0 :: l') m).rules = RL from HRL.out]
         exact ⟨Av, cv, gT, gL, rfl, HOe.out.vl.els.2.1, HOe.out.vl.els.2.2.1, hEl, by omega, hT9, by omega, hL9, hB9.drew⟩
end Go.Proofs.Ytjdojogjogenkaa
