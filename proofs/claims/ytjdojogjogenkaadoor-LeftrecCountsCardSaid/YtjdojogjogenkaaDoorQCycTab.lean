/- Contract: (*cycle.finder).table: for each number of further rules, rule and nonterminal, whether they lead there. -/
import Derived.Test.YtjdojogjogenkaaDoorQPasses
import Derived.Test.YtjdojogjogenkaaDoorQp2
import Derived.Test.YtjdojogjogenkaaDoorQp1
import Derived.Deep.Cut
import Derived.IntWalk
namespace Go.Proofs.YtjdojogjogenkaaDoor
open Go.RowKit
set_option linter.unusedVariables false
theorem RowsM.elsR {w : World} {bf : Nat} {bs : List Nat} {m n cf : Nat} {f : List (List Bool)} (h : RowsM w bf bs m n cf f) (hm : m ≤ 1000000) (S : Nat → Prop) (hS : ∀ b ∈ bf :: bs, S b) : Els w S f (some ⟨bf, 0, none⟩) := by
 refine fun _ => ⟨bf, 0, rfl, hS _ (by simp), fun i row hi => ?_⟩
 have hil : i < bs.length := by have := (List.getElem?_eq_some_iff.1 hi).1; have := h.flen; have := h.blen; omega
 obtain ⟨b, hb⟩ := get_some hil
 obtain ⟨h1, h2⟩ := h.rows i b row hb hi
 have hbb : S b := hS b (by simp [List.mem_of_getElem? hb])
 refine ⟨[rowSl b m], ⟨some ⟨b, 0, none⟩, m, by rw [h2]; rfl, by omega, by unfold maxLen; omega, fun _ => ⟨b, 0, rfl, hbb, fun j x hj => ⟨[.bool x], rfl, fun k u hu => ?_⟩⟩⟩, fun k u hu => ?_⟩
 ·match k, hu with
  | 0, hu =>
   simp at hu; subst hu
   have e : 0 + j * Dat.size Bool + 0 = j := by show 0 + j * 1 + 0 = j; omega
   rw [e]
   exact (h1.cell j).trans (bcells_get hj)
 ·match k, hu with
  | 0, hu =>
   simp at hu; subst hu
   have e : 0 + i * Dat.size (List Bool) + 0 = i := by show 0 + i * 1 + 0 = i; omega
   rw [e]
   exact h.outer i b hb
theorem infoBoolss : (Tryd.prog.info? 112).map (fun i => (i.zero, i.size, i.bytes)) = some (some (.slice none 0 0), 1, 24) := by kernel_rfl
theorem elemBoolss : ElemT Tryd.prog (List (List Bool)) 135 112 24 := by obtain ⟨i, h1, h2, h3, h4⟩ := info_parts infoBoolss; exact ⟨i, _, Tryd.underlying135, h1, h2, h3, h4, rfl⟩
theorem RowP.setRow {w w' : World} {bf n m : Nat} {bs : List Nat} {f : List (List Bool)} {i b : Nat} {row' : List Bool} (h : RowP w bf n m bs f) (hi : bs[i]? = some b) (k : Kept (fun x => x = b) w w') (hb : Blk' w' b 4 (bcells row')) (hl : row'.length = m) : RowP w' bf n m bs (f.set i row') := by
 have hbl := h.lt b (List.mem_of_getElem? hi)
 refine ⟨by rw [List.length_set]; exact h.flen, h.le, h.outer.kept k (by omega), fun j c row hj hr => ?_, fun c hc => ⟨(h.lt c hc).1, Nat.lt_of_lt_of_le (h.lt c hc).2 k.size⟩, h.nodup⟩
 rw [List.getElem?_set] at hr
 split at hr
 ·rename_i e
  subst e
  rw [hi] at hj
  injection hj with hj
  subst hj
  split at hr
  ·injection hr with hr
   subst hr
   exact ⟨hb, hl⟩
  ·cases hr
 ·rename_i e
  have h1 := h.rows j c row hj hr
  refine ⟨h1.1.kept k (fun e2 => e ?_), h1.2⟩
  subst e2
  obtain ⟨q1, q2⟩ := List.getElem?_eq_some_iff.1 hi
  obtain ⟨q3, q4⟩ := List.getElem?_eq_some_iff.1 hj
  exact (List.getElem_inj h.nodup).1 (q2.trans q4.symm)
theorem set_last {α : Type} {f : List α} {x y : α} {j : Nat} (h : f.length = j) : (f ++ [x]).set j y = f ++ [y] := by subst h; simp
def FillT (prow : List Int) (rs : List Rule) (Tp : List (List Bool)) (s kk u t : Nat) : Prop :=
 ∃ (s' k' : Nat) (c : Int) (q' : Rule) (row' : List Bool), prow[s']? = some c ∧ rs[k']? = some q' ∧ q'.left = c ∧ Tp[k']? = some row' ∧ row'[t]? = some true ∧ (s' < s ∨ (s' = s ∧ (k' < kk ∨ (k' = kk ∧ t < u))))
def Fill0 (prow : List Int) (s t : Nat) : Prop := ∃ s' : Nat, s' < s ∧ prow[s']? = some (t : Int)
def FillP (k : Nat) (prow : List Int) (rs : List Rule) (Tp : List (List Bool)) (s t : Nat) : Prop := (k = 0 ∧ Fill0 prow s t) ∨ (k ≠ 0 ∧ FillT prow rs Tp s 0 0 t)
section
variable {prow : List Int} {rs : List Rule} {Tp : List (List Bool)} {s kk u : Nat} {c : Int} {q : Rule} {row : List Bool} {y : Bool}
theorem FillT.cell (hc : prow[s]? = some c) (hq : rs[kk]? = some q) (hl : q.left = c) (hr : Tp[kk]? = some row) (hy : row[u]? = some y) (t : Nat) : FillT prow rs Tp s kk (u + 1) t ↔ FillT prow rs Tp s kk u t ∨ (t = u ∧ y = true) := by
 constructor
 ·rintro ⟨s', k', c', q', row', h1, h2, h3, h4, h5, h6⟩
  by_cases e : s' = s ∧ k' = kk ∧ t = u
  ·obtain ⟨rfl, rfl, rfl⟩ := e
   rw [hr] at h4
   injection h4 with h4
   subst h4
   rw [hy] at h5
   injection h5 with h5
   exact .inr ⟨rfl, h5⟩
  ·exact .inl ⟨s', k', c', q', row', h1, h2, h3, h4, h5, by omega⟩
 ·rintro (⟨s', k', c', q', row', h1, h2, h3, h4, h5, h6⟩ | ⟨rfl, rfl⟩)
  ·exact ⟨s', k', c', q', row', h1, h2, h3, h4, h5, by omega⟩
  ·exact ⟨s, kk, c, q, row, hc, hq, hl, hr, hy, by omega⟩
theorem FillT.rule (hr : Tp[kk]? = some row) (t : Nat) : FillT prow rs Tp s (kk + 1) 0 t ↔ FillT prow rs Tp s kk row.length t := by
 constructor
 ·rintro ⟨s', k', c', q', row', h1, h2, h3, h4, h5, h6⟩
  refine ⟨s', k', c', q', row', h1, h2, h3, h4, h5, ?_⟩
  by_cases e : k' = kk
  ·subst e
   rw [hr] at h4
   injection h4 with h4
   subst h4
   have := (List.getElem?_eq_some_iff.1 h5).1
   omega
  ·omega
 ·rintro ⟨s', k', c', q', row', h1, h2, h3, h4, h5, h6⟩
  exact ⟨s', k', c', q', row', h1, h2, h3, h4, h5, by omega⟩
theorem FillT.skip (hc : prow[s]? = some c) (hq : rs[kk]? = some q) (hl : q.left ≠ c) (t : Nat) : FillT prow rs Tp s (kk + 1) 0 t ↔ FillT prow rs Tp s kk 0 t := by
 constructor
 ·rintro ⟨s', k', c', q', row', h1, h2, h3, h4, h5, h6⟩
  refine ⟨s', k', c', q', row', h1, h2, h3, h4, h5, ?_⟩
  by_cases e : s' = s ∧ k' = kk
  ·obtain ⟨rfl, rfl⟩ := e
   rw [hc] at h1
   injection h1 with h1
   rw [hq] at h2
   injection h2 with h2
   subst h1; subst h2
   exact absurd h3 hl
  ·omega
 ·rintro ⟨s', k', c', q', row', h1, h2, h3, h4, h5, h6⟩
  exact ⟨s', k', c', q', row', h1, h2, h3, h4, h5, by omega⟩
theorem FillT.place (t : Nat) : FillT prow rs Tp (s + 1) 0 0 t ↔ FillT prow rs Tp s rs.length 0 t := by
 constructor
 ·rintro ⟨s', k', c', q', row', h1, h2, h3, h4, h5, h6⟩
  have := (List.getElem?_eq_some_iff.1 h2).1
  exact ⟨s', k', c', q', row', h1, h2, h3, h4, h5, by omega⟩
 ·rintro ⟨s', k', c', q', row', h1, h2, h3, h4, h5, h6⟩
  exact ⟨s', k', c', q', row', h1, h2, h3, h4, h5, by omega⟩
theorem Fill0.hit {x : Nat} (hc : prow[s]? = some (x : Int)) (t : Nat) : Fill0 prow (s + 1) t ↔ Fill0 prow s t ∨ t = x := by
 constructor
 ·rintro ⟨s', h1, h2⟩
  by_cases e : s' = s
  ·subst e
   rw [hc] at h2
   injection h2 with h2
   exact .inr (by omega)
  ·exact .inl ⟨s', by omega, h2⟩
 ·rintro (⟨s', h1, h2⟩ | rfl)
  ·exact ⟨s', by omega, h2⟩
  ·exact ⟨s, by omega, hc⟩
end
def TabRows (g : Gram) (n k : Nat) (rows : List (List Bool)) : Prop := rows.length = g.rules.length ∧ ∀ (i : Nat) (q : Rule) (row : List Bool), g.rules[i]? = some q → rows[i]? = some row → row.length = n ∧ ∀ t, t < n → (row[t]? = some true ↔ TabR g k q t)
def TabT (g : Gram) (n : Nat) (T : List (List (List Bool))) : Prop := ∀ (k : Nat) (rows : List (List Bool)), T[k]? = some rows → TabRows g n k rows
theorem FillP.all {g : Gram} {n k : Nat} {q : Rule} {prow : List Int} {Tp : List (List Bool)} (hp : PassRow g q prow) (hT : k ≠ 0 → TabRows g n (k - 1) Tp) (t : Nat) (ht : t < n) : FillP k prow g.rules Tp prow.length t ↔ TabR g k q t := by
 cases k with
 | zero =>
  constructor
  ·rintro (⟨_, s', h1, h2⟩ | ⟨h, _⟩)
   ·exact (hp.mem t).1 (List.mem_of_getElem? h2)
   ·exact absurd rfl h
  ·intro h
   obtain ⟨s', hs⟩ := List.mem_iff_getElem?.1 ((hp.mem t).2 h)
   exact .inl ⟨rfl, s', (List.getElem?_eq_some_iff.1 hs).1, hs⟩
 | succ k =>
  have hT' := hT (by omega)
  rw [show k + 1 - 1 = k from rfl] at hT'
  constructor
  ·rintro (⟨h, _⟩ | ⟨_, s', k', c, q', row', h1, h2, h3, h4, h5, h6⟩)
   ·omega
   ·exact ⟨c, (hp.mem c).1 (List.mem_of_getElem? h1), q', List.mem_of_getElem? h2, h3, ((hT'.2 k' q' row' h2 h4).2 t ht).1 h5⟩
  ·rintro ⟨c, h1, q', h2, h3, h4⟩
   obtain ⟨s', hs⟩ := List.mem_iff_getElem?.1 ((hp.mem c).2 h1)
   obtain ⟨k', hk⟩ := List.mem_iff_getElem?.1 h2
   obtain ⟨row', hr⟩ := get_some (show k' < Tp.length by rw [hT'.1]; exact (List.getElem?_eq_some_iff.1 hk).1)
   exact .inr ⟨by omega, s', k', c, q', row', hs, hk, h3, hr, ((hT'.2 k' q' row' hk hr).2 t ht).2 h4, .inl (List.getElem?_eq_some_iff.1 hs).1⟩
theorem FillP.zero {k : Nat} {prow : List Int} {rs : List Rule} {Tp : List (List Bool)} {t : Nat} : ¬ FillP k prow rs Tp 0 t := by
 rintro (⟨_, s', h, _⟩ | ⟨_, s', k', c, q', row', _, _, _, _, _, h⟩)
 ·omega
 ·omega
theorem row_set {n : Nat} {row : List Bool} (hl : row.length = n) {P Q : Nat → Prop} {u : Nat} {v : Bool} (hu : u < n) (h : ∀ t, t < n → (row[t]? = some true ↔ P t)) (hq : ∀ t, t ≠ u → (Q t ↔ P t)) (hv : v = true ↔ Q u) : ∀ t, t < n → ((row.set u v)[t]? = some true ↔ Q t) := by
 intro t ht
 rw [List.getElem?_set]
 by_cases e : u = t
 ·subst e
  rw [if_pos rfl, if_pos (by omega), ← hv]
  simp
 ·rw [if_neg e, h t ht, hq t (fun h => e h.symm)]
def TbO (g : Gram) (n : Nat) (w0 : World) (v i : Value) (wr : World) : Prop :=
 ∃ (k : Nat) (T : List (List (List Bool))), k ≤ n ∧ i = .int .i64 k ∧ Own wr (fun _ => False) w0.heap.size 112 v T ∧ T.length = k ∧ TabT g n T ∧ Below w0.heap.size w0 wr
def TbI (g : Gram) (n k R : Nat) (w2 : World) (i : Value) (wr : World) : Prop :=
 ∃ (j : Nat) (bs : List Nat) (f : List (List Bool)), j ≤ g.rules.length ∧ i = .int .i64 j ∧ bs.length = j ∧ RowP wr R g.rules.length n bs f ∧ (∀ (p : Nat) (q : Rule) (row : List Bool), g.rules[p]? = some q → f[p]? = some row → row.length = n ∧ ∀ t, t < n → (row[t]? = some true ↔ TabR g k q t)) ∧ Kept (fun b => b = R) w2 wr
def TbM (g : Gram) (n R : Nat) (bs : List Nat) (f : List (List Bool)) (P : Nat → Nat → Prop) (w2 : World) (m : Nat) (i : Value) (wr : World) : Prop :=
 ∃ (s : Nat) (row : List Bool), s ≤ m ∧ i = .int .i64 s ∧ row.length = n ∧ RowP wr R g.rules.length n bs (f ++ [row]) ∧ (∀ t, t < n → (row[t]? = some true ↔ P s t)) ∧ Kept (fun b => b = R) w2 wr
set_option maxRecDepth 100000 in
set_option maxHeartbeats 16000000 in
theorem table_any (g : Gram) (n fb : Nat) (A Ap : Option Addr) (c cp : Nat) (S Sp : Nat → Prop) (out : List (List Int)) (w : World) (hF : Blk' w fb 180 #[.int .i64 g.terms, .int .i64 g.nons, .int .i64 g.start, .slice A g.rules.length c, .slice Ap out.length cp])
  (hgn : g.nons = (n : Int)) (hn : 1 ≤ n ∧ n ≤ 100) (hrl : g.rules.length ≤ 32) (hA : Els w S g.rules A) (hS : ∀ b, S b → b < w.heap.size) (hP : Els w Sp out Ap) (hSp : ∀ b, Sp b → b < w.heap.size) (hpl : PassL g g.rules out) (hpi : PassIn g n) (hq4 : ∀ q ∈ g.rules, q.right.length ≤ 4) :
  Calls Tryd.prog 116 #[.pointer (some ⟨fb, 0, none⟩), .int .i64 (n : Int)] w fun e w' => ∃ v T, e = .returned v ∧ T.length = n ∧ TabT g n T ∧ Own w' (fun _ => False) w.heap.size 112 v T ∧ Below w.heap.size w w' := by
 obtain ⟨gt, gn, gs, rs⟩ := g
 dsimp only at *
 subst hgn
 obtain ⟨N, hN⟩ : ∃ N, N = rs.length := ⟨_, rfl⟩
 have hmk1 := mkRows rs.length (by omega)
 have hmk2 := make_eq n (by omega)
 have HF := Lib.hid hF
 have HA := Lib.hid hA
 have HS := Lib.hid hS
 have HP := Lib.hid hP
 have HSp := Lib.hid hSp
 have HPL := Lib.hid hpl
 have HPI := Lib.hid hpi
 have HQ4 := Lib.hid hq4
 have HOl : Hid (out.length = rs.length) := Lib.hid hpl.1
 have hn9 : (n : Int) ≤ 100 := by omega
 have hn1 := hn.1
 have hn100 := hn.2
 have hrl9 : (rs.length : Int) ≤ 32 := by omega
 have zf := hF.lt
 clear hF hA hS hP hSp hpl hpi hq4 hN hn
 go_enter Tryd.func116, Tryd.ntmps116
 go_wp2_with fail
 go_loopw [5, 16] (fun v i wr => TbO ⟨gt, (n : Int), gs, rs⟩ n w v i wr) (fun _ i _ => n - (intOf i).toNat)
 case atStart => exact ⟨0, [], Nat.zero_le _, rfl, Own.nil _ _ _ _, rfl, (fun k rows h => by simp at h), Below.refl _ _⟩
 case round =>
  obtain ⟨wo, hwo⟩ : ∃ wo : World, wo = wr := ⟨_, rfl⟩
  subst hwo
  obtain ⟨k, T, hk, rfl, hown, hTl, hT, hb⟩ := hrel
  obtain ⟨AT, cT, rfl, hcT1, hcT2, _⟩ := hown.form
  have HO := Lib.hid hown
  have HT := Lib.hid hT
  have HTl := Lib.hid hTl
  have HB := Lib.hid hb
  have HFo := Lib.hid (HF.out.below hb zf)
  have f3 : wo.cell? ⟨fb, 3, none⟩ = some (.slice A rs.length c) := HFo.out.cell 3
  have zfo : fb < wo.heap.size := HFo.out.lt
  clear hown hT hTl hb
  by_cases hkn : k < n
  ·have hk0 : (0 : Int) ≤ (k : Int) := by omega
   have hk9 : (k : Int) < (n : Int) := by omega
   obtain ⟨w2, hw2⟩ : ∃ w2 : World, w2 = wo.alloc (.cells (scells [] 0 rs.length) 53) := ⟨_, rfl⟩
   have hb2 : Below wo.heap.size wo w2 := by rw [hw2]; exact (Below.refl _ _).alloc (Nat.le_refl _) _
   have HW2 := Lib.hid hw2
   have HB2 := Lib.hid hb2
   have HR2 : Hid (RowP w2 wo.heap.size rs.length n [] []) := Lib.hid (RowP.start n (by rw [hw2]; exact Blk'.new _ _ _))
   have z2 : wo.heap.size < w2.heap.size := by rw [hw2]; simp
   obtain ⟨Tp, hTp⟩ : ∃ Tp : List (List Bool), Tp = T.getD (k - 1) [] := ⟨_, rfl⟩
   have HTp : Hid (k ≠ 0 → T[k - 1]? = some Tp ∧ TabRows ⟨gt, (n : Int), gs, rs⟩ n (k - 1) Tp) := Lib.hid (fun h => by
    obtain ⟨rows, hr⟩ := get_some (show k - 1 < T.length by rw [HTl.out]; omega)
    have e : Tp = rows := by rw [hTp, List.getD_eq_getElem?_getD, hr]; rfl
    rw [e]
    exact ⟨hr, HT.out (k - 1) rows hr⟩)
   have HTE := Lib.hid (HO.out.vl.els.2.2.2.below hb2)
   clear hw2 hb2 hTp
   go_upto_region 6 with (fail)
   rw [← HW2.out]
   go_wp2_with fail
   go_loopw [28] (fun i wr => TbI ⟨gt, (n : Int), gs, rs⟩ n k wo.heap.size w2 i wr) (fun i _ => rs.length - (intOf i).toNat)
   case atStart => exact ⟨0, [], [], Nat.zero_le _, rfl, rfl, HR2.out, (fun p q row _ h => by simp at h), Kept.refl _ _⟩
   case round =>
    obtain ⟨wi, hwi⟩ : ∃ wi : World, wi = wr := ⟨_, rfl⟩
    subst hwi
    obtain ⟨j, bs, f, hj, rfl, hbl, hR, hrows, hkp⟩ := hrel
    have HR := Lib.hid (show RowP wi wo.heap.size rs.length n bs f from hR)
    have HRows := Lib.hid hrows
    have HK := Lib.hid hkp
    have HBl := Lib.hid hbl
    have HFi := Lib.hid ((HFo.out.below HB2.out HFo.out.lt).kept hkp (by omega))
    have zF := hR.outer.lt
    have hzi : w2.heap.size ≤ wi.heap.size := hkp.size
    dsimp only at hj
    by_cases hjn : j < rs.length
    ·obtain ⟨q, hq⟩ := get_some hjn
     obtain ⟨prow, hprow⟩ := get_some (show j < out.length by rw [HOl.out]; exact hjn)
     have HPr := Lib.hid (HPL.out.2 j q prow hq hprow)
     have hpl4 : prow.length ≤ 4 := by have := HPr.out.len; have := HQ4.out q (List.mem_of_getElem? hq); omega
     have HQ := Lib.hid (And.intro hq hprow)
     have hj0 : (0 : Int) ≤ (j : Int) := by omega
     have hj9 : (j : Int) < (rs.length : Int) := by omega
     have hj9o : (j : Int) < (out.length : Int) := by have := HOl.out; omega
     obtain ⟨wj, hwj⟩ : ∃ wj : World, wj = (wi.setCell ⟨wo.heap.size, j, none⟩ (.slice (some ⟨wi.heap.size, 0, none⟩) n n)).alloc (.cells (bcells (List.replicate n false)) 4) := ⟨_, rfl⟩
     have c0 : wi.cell? ⟨wo.heap.size, j, none⟩ = some (.slice none 0 0) := (hR.outer.cell j).trans (scells_nil (by omega) hjn)
     have f0 := hR.outer.frozen j
     have HKj : Hid (Kept (fun b => b = wo.heap.size) wi wj) := Lib.hid (by rw [hwj]; exact ((Kept.refl (fun b => b = wo.heap.size) wi).setCell (p := ⟨wo.heap.size, j, none⟩) (.inl rfl) _).alloc _)
     have HRj : Hid (RowP wj wo.heap.size rs.length n (bs ++ [wi.heap.size]) (f ++ [List.replicate n false])) := Lib.hid (by
      refine HR.out.next (by omega) HKj.out ?_ (by rw [hwj]; exact Blk'.new' _ _ _ (by simp [World.setCell])) (by simp) (Nat.le_refl _)
      rw [hwj, ← scells_set (by omega), hbl]
      exact (HR.out.outer.set_ j _).alloc _)
     have HWj := Lib.hid hwj
     have zF2 : wo.heap.size < wi.heap.size + 1 := by omega
     have g1 : wi.cell? ⟨fb, 1, none⟩ = some (.int .i64 (n : Int)) := HFi.out.cell 1
     have zfi : fb < wi.heap.size := HFi.out.lt
     have hfj := HFi.out.kept HKj.out (by omega)
     have HFj := Lib.hid hfj
     have g4 : wj.cell? ⟨fb, 4, none⟩ = some (.slice Ap out.length cp) := hfj.cell 4
     have zfj : fb < wj.heap.size := hfj.lt
     have HKW := Lib.hid (HK.out.trans HKj.out)
     have hPj : Els wj Sp out Ap := (((HP.out.below HB.out).belowB HB2.out (fun b h => by have := HSp.out b h; have := HB.out.size; omega))).kept HKW.out (fun b h e => by have := HSp.out b h; have := HB.out.size; omega)
     obtain ⟨bp, op, Ar, cr, rfl, hSb, hbp, hcr0, hcr1, hcr2, hEr⟩ := hPj.rowS hprow
     have HEr := Lib.hid hEr
     clear hq hprow hR hrows hkp hbl hwj hfj hPj hEr
     go_upto_region 10 with (fail)
     rw [← HWj.out]
     go_wp2_with fail
     clear hcr0 g4 c0 g1 f0
     go_loopw [48] (fun i wr => TbM ⟨gt, (n : Int), gs, rs⟩ n wo.heap.size (bs ++ [wi.heap.size]) f (fun s t => FillP k prow rs Tp s t) w2 prow.length i wr) (fun i _ => prow.length - (intOf i).toNat)
     case atStart => exact ⟨0, List.replicate n false, Nat.zero_le _, rfl, by simp, HRj.out, (fun t ht => ⟨fun h => by simp [List.getElem?_replicate] at h, fun h => absurd h FillP.zero⟩), HKW.out⟩
     case round =>
      obtain ⟨wm, hwm⟩ : ∃ wm : World, wm = wr := ⟨_, rfl⟩
      subst hwm
      obtain ⟨s, row, hs, rfl, hrl2, hR, hfill, hkp⟩ := hrel
      have HRm := Lib.hid (show RowP wm wo.heap.size rs.length n (bs ++ [wi.heap.size]) (f ++ [row]) from hR)
      have HFl := Lib.hid hfill
      have HKm := Lib.hid hkp
      have HRl := Lib.hid hrl2
      clear hR hfill hkp hrl2 HRj HKj HKW
      by_cases hsl : s < prow.length
      ·obtain ⟨x, hx⟩ := get_some hsl
       have hEm : Els wm Sp prow Ar := by
        have h1 := HEr.out
        rw [HWj.out] at h1
        exact (show Els w2 Sp prow Ar from h1.keep (fun p hp hlt => by
         have hp1 := HSp.out _ hp
         have hz1 := HB.out.size
         have hk1 := (((HK.out.setCell (p := ⟨wo.heap.size, j, none⟩) (.inl rfl) (.slice (some ⟨wi.heap.size, 0, none⟩) n n)).alloc (.cells (bcells (List.replicate n false)) 4)).cell (p := p) (by omega) (by omega))
         exact hk1.symm) (fun b h => h)).kept HKm.out (fun b h e => by have := HSp.out b h; have := HB.out.size; omega)
       obtain ⟨br, or_, rfl, hSr, hbr, hxi, hxc⟩ := hEm.int hx
       have hxin := HPI.out.tos q (List.mem_of_getElem? HQ.out.1) x ((HPr.out.mem x).1 (List.mem_of_getElem? hx))
       have HX := Lib.hid hx
       obtain ⟨y, rfl⟩ : ∃ y : Nat, x = (y : Int) := ⟨x.toNat, by omega⟩
       have hy9 : (y : Int) < (n : Int) := hxin.2
       have hyn : y < n := by omega
       have hy0 : (0 : Int) ≤ (y : Int) := by omega
       have hs0 : (0 : Int) ≤ (s : Int) := by omega
       have hlast : (bs ++ [wi.heap.size])[j]? = some wi.heap.size := by rw [List.getElem?_append_right (by rw [HBl.out]; exact Nat.le_refl _), HBl.out]; simp
       have hfl : f.length = j := by rw [HR.out.flen, HBl.out]
       have hlastf : (f ++ [row])[j]? = some row := by rw [List.getElem?_append_right (by omega), hfl]; simp
       have hBl := HRm.out.rows j _ row hlast hlastf
       have o0 : wm.cell? ⟨wo.heap.size, j, none⟩ = some (.slice (some ⟨wi.heap.size, 0, none⟩) n n) := (HRm.out.outer.cell j).trans (scells_get hlast)
       have fr := fun u => hBl.1.frozen u
       have zr : wi.heap.size < wm.heap.size := hBl.1.lt
       have zo : wo.heap.size < wm.heap.size := HRm.out.outer.lt
       have HLa := Lib.hid (And.intro hlast (And.intro hfl (And.intro hlastf hBl.1)))
       by_cases hk00 : k = 0
       ·obtain ⟨yv, hyv⟩ := get_some (show y < row.length by rw [HRl.out]; exact hyn)
        have y0 : wm.cell? ⟨wi.heap.size, y, none⟩ = some (.bool yv) := (hBl.1.cell _).trans (bcells_get hyv)
        have fy := hBl.1.frozen y
        have hk0i : (k : Int) = 0 := by omega
        have hkd := (Kept.refl (fun b => b = wi.heap.size) wm).setCell (p := ⟨wi.heap.size, y, none⟩) (.inl rfl) (.bool true)
        have HRn : Hid (RowP (wm.setCell ⟨wi.heap.size, y, none⟩ (.bool true)) wo.heap.size rs.length n (bs ++ [wi.heap.size]) (f ++ [row.set y true])) := Lib.hid (by
         have h := HRm.out.setRow (row' := row.set y true) hlast hkd (by rw [← bcells_set]; exact hBl.1.set_ y _) (by rw [List.length_set]; exact HRl.out)
         rwa [set_last hfl] at h)
        have HFn : Hid (∀ t, t < n → ((row.set y true)[t]? = some true ↔ FillP k prow rs Tp (s + 1) t)) := Lib.hid (row_set HRl.out hyn HFl.out (fun t ht => by
         constructor
         ·rintro (⟨h1, h2⟩ | ⟨h1, _⟩)
          ·rcases (Fill0.hit HX.out t).1 h2 with h | h
           ·exact .inl ⟨h1, h⟩
           ·exact absurd h ht
          ·exact absurd hk00 h1
         ·rintro (⟨h1, h2⟩ | ⟨h1, _⟩)
          ·exact .inl ⟨h1, (Fill0.hit HX.out t).2 (.inl h2)⟩
          ·exact absurd hk00 h1) ⟨fun _ => .inl ⟨hk00, (Fill0.hit HX.out y).2 (.inr rfl)⟩, fun _ => rfl⟩)
        have HKn : Hid (Kept (fun b => b = wo.heap.size) w2 (wm.setCell ⟨wi.heap.size, y, none⟩ (.bool true))) := Lib.hid (HKm.out.setCell (p := ⟨wi.heap.size, y, none⟩) (.inr (by show w2.heap.size ≤ wi.heap.size; exact hzi)) _)
        have HK0 := Lib.hid hk00
        clear hx hEm hlast hfl hlastf hBl fr hyv hkd hxin hk00 hxi
        go_wp2
        go_roundw
        case rel => exact ⟨s + 1, row.set y true, hsl, by go_num, by rw [List.length_set]; exact HRl.out, HRn.out, HFn.out, HKn.out⟩
        case measure => simp [intOf]; omega
       ·have hfm := (HFi.out.below (Below.refl _ _) HFi.out.lt)
        have HFm : Hid (Blk' wm fb 180 #[.int .i64 gt, .int .i64 (n : Int), .int .i64 gs, .slice A rs.length c, .slice (some ⟨bp, op, none⟩) out.length cp]) := Lib.hid ((HFo.out.below HB2.out HFo.out.lt).kept HKm.out (by omega))
        have m3 : wm.cell? ⟨fb, 3, none⟩ = some (.slice A rs.length c) := HFm.out.cell 3
        have zfm : fb < wm.heap.size := HFm.out.lt
        have hk1 : ¬ (k : Int) = 0 := by omega
        have HK0 := Lib.hid hk00
        have hTp2 := (HTp.out hk00).1
        have HTR := Lib.hid (HTp.out hk00).2
        have HTc := Lib.hid hTp2
        clear hx hEm hlast hfl hlastf hBl fr hxin hfm hTp2 hxi
        go_wp2_with fail
        clear m3 hxc
        go_loopw [66] (fun i wr => TbM ⟨gt, (n : Int), gs, rs⟩ n wo.heap.size (bs ++ [wi.heap.size]) f (fun kk t => FillT prow rs Tp s kk 0 t) w2 rs.length i wr) (fun i _ => rs.length - (intOf i).toNat)
        case atStart => exact ⟨0, row, Nat.zero_le _, rfl, HRl.out, HRm.out, (fun t ht => (HFl.out t ht).trans ⟨fun h => (by rcases h with ⟨h, _⟩ | ⟨_, h⟩; exact absurd h HK0.out; exact h), fun h => .inr ⟨HK0.out, h⟩⟩), HKm.out⟩
        case round =>
         obtain ⟨wk, hwk⟩ : ∃ wk : World, wk = wr := ⟨_, rfl⟩
         subst hwk
         obtain ⟨kk, row1, hkk, rfl, hrl2, hR, hfill, hkp⟩ := hrel
         have HRk := Lib.hid (show RowP wk wo.heap.size rs.length n (bs ++ [wi.heap.size]) (f ++ [row1]) from hR)
         have HFk := Lib.hid hfill
         have HKk := Lib.hid hkp
         have HRlk := Lib.hid hrl2
         clear hR hfill hkp hrl2 HRm HFl HRl o0
         by_cases hkl : kk < rs.length
         ·obtain ⟨q2, hq2⟩ := get_some hkl
          have hAk : Els wk S rs A := ((HA.out.below HB.out).belowB HB2.out (fun b h => by have := HS.out b h; have := HB.out.size; omega)).kept HKk.out (fun b h e => by have := HS.out b h; have := HB.out.size; omega)
          obtain ⟨bq, oq, Aq, cq, rfl, hSbq, hbs, hqi, hrc, hcr, hEr2, hc0, hc1⟩ := hAk.rule hq2
          obtain ⟨prv, hprv⟩ := get_some (show kk < Tp.length by rw [HTR.out.1]; exact hkl)
          have hpvl := (HTR.out.2 kk q2 prv hq2 hprv).1
          have HQ2 := Lib.hid (And.intro hq2 (And.intro hprv hpvl))
          obtain ⟨ql, qr⟩ := q2
          dsimp only at hqi hrc hcr hEr2 hc0 hc1
          have hkk0 : (0 : Int) ≤ (kk : Int) := by omega
          obtain ⟨wx, hwx⟩ : ∃ wx : World, wx = wk.alloc (.cells #[.int .i64 ql, .slice Aq qr.length cq] 60) := ⟨_, rfl⟩
          have HWx := Lib.hid hwx
          have hkx : Kept (fun b => b = wo.heap.size) wk wx := by rw [hwx]; exact (Kept.refl _ wk).alloc _
          have HKx := Lib.hid (HKk.out.trans hkx)
          have HRx : Hid (RowP wx wo.heap.size rs.length n (bs ++ [wi.heap.size]) (f ++ [row1])) := Lib.hid (by
           have hb3 : Below wk.heap.size wk wx := by rw [hwx]; exact (Below.refl _ _).alloc (Nat.le_refl _) _
           exact ⟨HRk.out.flen, HRk.out.le, HRk.out.outer.below hb3 HRk.out.outer.lt, fun i b row hi hr => ⟨(HRk.out.rows i b row hi hr).1.below hb3 (HRk.out.rows i b row hi hr).1.lt, (HRk.out.rows i b row hi hr).2⟩, fun b hb => ⟨(HRk.out.lt b hb).1, Nat.lt_of_lt_of_le (HRk.out.lt b hb).2 hb3.size⟩, HRk.out.nodup⟩)
          have x0 : wx.cell? ⟨wk.heap.size, 0, none⟩ = some (.int .i64 ql) := by rw [hwx]; exact (Blk'.new wk _ _).cell 0
          have zx : wk.heap.size < wx.heap.size := by rw [hwx]; simp
          clear hq2 hprv hpvl hwx hkx hAk hEr2 hqi
          go_upto_region 18 with (fail)
          rw [← HWx.out]
          clear hc0 hc1
          by_cases hql : ql = (y : Int)
          ·have hTx : Els wx (fun b => (False ∨ w.heap.size ≤ b) ∧ b < wo.heap.size) T AT := HTE.out.kept HKx.out (fun b h e => by omega)
           obtain ⟨b1, o1, A1, c1, rfl, hS1, hb1, hc1, hc11, hc12, hE1⟩ := hTx.rowS HTc.out
           obtain ⟨b2, o2, A2, c2, rfl, hS2, hb22, hc2, hc21, hc22, hE2⟩ := hE1.rowS HQ2.out.2.1
           have HE2 := Lib.hid hE2
           have hpv := HQ2.out.2.2
           rw [hpv] at hc2
           have HQl := Lib.hid hql
           have hkm1 : IntKind.i64.wrap ((k : Int) - 1) = ((k - 1 : Nat) : Int) := by rw [IntWalk.i64_in _ (by omega)]; omega
           have hkm2 : ((k - 1 : Nat) : Int) < (T.length : Int) := by have := HTl.out; omega
           have hkm3 : (0 : Int) ≤ ((k - 1 : Nat) : Int) := by omega
           have htpl : (kk : Int) < (Tp.length : Int) := by have := HTR.out.1; dsimp only at this; omega
           have hle : (ql != (y : Int)) = false := by simp [hql]
           clear hTx hE1 hE2 hql hpv
           go_wp2_with fail
           clear x0 hc1 hc2
           go_loopw [84] (fun i wr => TbM ⟨gt, (n : Int), gs, rs⟩ n wo.heap.size (bs ++ [wi.heap.size]) f (fun u t => FillT prow rs Tp s kk u t) w2 n i wr) (fun i _ => n - (intOf i).toNat)
           case atStart => exact ⟨0, row1, Nat.zero_le _, rfl, HRlk.out, HRx.out, HFk.out, HKx.out⟩
           case round =>
            obtain ⟨wu, hwu⟩ : ∃ wu : World, wu = wr := ⟨_, rfl⟩
            subst hwu
            obtain ⟨u, row2, hu, rfl, hrl2, hR, hfill, hkp⟩ := hrel
            have HRu := Lib.hid (show RowP wu wo.heap.size rs.length n (bs ++ [wi.heap.size]) (f ++ [row2]) from hR)
            have HFu := Lib.hid hfill
            have HKu := Lib.hid hkp
            have HRlu := Lib.hid hrl2
            by_cases hun : u < n
            ·obtain ⟨z, hz⟩ := get_some (show u < prv.length by have := HQ2.out.2.2; omega)
             have hEu : Els wu (fun b => (False ∨ w.heap.size ≤ b) ∧ b < wo.heap.size) prv A2 := HE2.out.keep (fun p hp hlt => (HKu.out.cell (p := p) (by omega) (by show ¬ p.block = wo.heap.size; omega)).trans (HKx.out.cell (p := p) (by omega) (by show ¬ p.block = wo.heap.size; omega)).symm) (fun b h => h)
             obtain ⟨b3, o3, rfl, hS3, hb3, hc3⟩ := hEu.bool hz
             have HZ := Lib.hid hz
             have hlast := HLa.out.1
             have hfl := HLa.out.2.1
             have hlastf : (f ++ [row2])[j]? = some row2 := by rw [List.getElem?_append_right (by omega), hfl]; simp
             have hBl := HRu.out.rows j _ row2 hlast hlastf
             have o0 : wu.cell? ⟨wo.heap.size, j, none⟩ = some (.slice (some ⟨wi.heap.size, 0, none⟩) n n) := (HRu.out.outer.cell j).trans (scells_get hlast)
             obtain ⟨xv, hxv⟩ := get_some (show u < row2.length by omega)
             have cx : wu.cell? ⟨wi.heap.size, u, none⟩ = some (.bool xv) := (hBl.1.cell _).trans (bcells_get hxv)
             have fx := hBl.1.frozen u
             have zwi : wi.heap.size < wu.heap.size := hBl.1.lt
             have zwo : wo.heap.size < wu.heap.size := HRu.out.outer.lt
             have hu0 : (0 : Int) ≤ (u : Int) := by omega
             have hu9 : (u : Int) < (n : Int) := by omega
             have n1 : ¬ wo.heap.size = wi.heap.size := by omega
             have HFn : Hid (∀ t, t < n → ((row2.set u (xv || z))[t]? = some true ↔ FillT prow rs Tp s kk (u + 1) t)) := Lib.hid (row_set hrl2 hun HFu.out (fun t ht => by
              rw [FillT.cell HX.out HQ2.out.1 HQl.out HQ2.out.2.1 HZ.out t]
              exact ⟨fun h => by rcases h with h | ⟨h, _⟩; exact h; exact absurd h ht, .inl⟩) (by
              have h9 : (row2[u]? = some true ↔ FillT prow rs Tp s kk u u) := HFu.out u hun
              rw [FillT.cell HX.out HQ2.out.1 HQl.out HQ2.out.2.1 HZ.out u, ← h9, hxv]
              simp))
             have hkd := ((Kept.refl (fun b => b = wi.heap.size) wu).drew).setCell (p := ⟨wi.heap.size, u, none⟩) (.inl rfl) (.bool (xv || z))
             have HRn : Hid (RowP (wu.drew.setCell ⟨wi.heap.size, u, none⟩ (.bool (xv || z))) wo.heap.size rs.length n (bs ++ [wi.heap.size]) (f ++ [row2.set u (xv || z)])) := Lib.hid (by
              have h := HRu.out.setRow (row' := row2.set u (xv || z)) hlast hkd (by rw [← bcells_set]; exact hBl.1.drew.set_ u _) (by rw [List.length_set]; exact hrl2)
              rwa [set_last hfl] at h)
             have HKn : Hid (Kept (fun b => b = wo.heap.size) w2 (wu.drew.setCell ⟨wi.heap.size, u, none⟩ (.bool (xv || z)))) := Lib.hid (HKu.out.drew.setCell (p := ⟨wi.heap.size, u, none⟩) (.inr (by show w2.heap.size ≤ wi.heap.size; exact hzi)) _)
             have e0 := (hkd.cell (p := ⟨wo.heap.size, j, none⟩) zwo n1).trans o0
             have HEe := Lib.hid e0
             clear hz hEu hlast hfl hlastf hBl hxv hkd e0 hR hfill hkp
             cases xv
             ·simp only [Bool.false_or] at HRn HKn HEe HFn
              go_wp2_with fail
              refine wp_region_noPanic ?_
              refine wp_region_held_drew (S := (fun w' => w'.cell? ⟨wo.heap.size, j, none⟩ = some (.slice (some ⟨wi.heap.size, 0, none⟩) n n))) (by kernel_rfl) ?hp (fun hHeld => ?bp)
              case hp => ((try dsimp only); go_keep)
              refine take_run (i := 0) (v := ?vp0) rfl (by kernel_rfl) (by kernel_rfl) (by kernel_rfl) (fun _ _ _ h => h) (by rfl) ?yp0 (by assumption) ?rp0
              case yp0 => (intro w hSw; (try dsimp only at hSw); go_simp; try with_reducible rfl)
              try simp only [Act.put, List.setIfInBounds_toArray, List.set_cons_zero, List.set_cons_succ]
              refine take_run (i := 1) (v := ?vp1) rfl (by kernel_rfl) (by kernel_rfl) (by kernel_rfl) (fun _ _ _ h => h) (by rfl) ?yp1 (by assumption) ?rp1
              case yp1 => (intro w hSw; (try dsimp only at hSw); go_simp; try with_reducible rfl)
              try simp only [Act.put, List.setIfInBounds_toArray, List.set_cons_zero, List.set_cons_succ]
              refine take_run (i := 2) (v := ?vp2) rfl (by kernel_rfl) (by kernel_rfl) (by kernel_rfl) (fun _ _ _ h => h) (by rfl) ?yp2 (by assumption) ?rp2
              case yp2 => (intro w hSw; (try dsimp only at hSw); go_simp; try with_reducible rfl)
              try simp only [Act.put, List.setIfInBounds_toArray, List.set_cons_zero, List.set_cons_succ]
              refine take_run (i := 3) (v := ?vp3) rfl (by kernel_rfl) (by kernel_rfl) (by kernel_rfl) (fun _ _ _ h => h) (by rfl) ?yp3 (by assumption) ?rp3
              case yp3 => (intro w hSw; (try dsimp only at hSw); go_simp; try with_reducible rfl)
              try simp only [Act.put, List.setIfInBounds_toArray, List.set_cons_zero, List.set_cons_succ]
              refine take_run (i := 4) (v := ?vp4) rfl (by kernel_rfl) (by kernel_rfl) (by kernel_rfl) (fun _ _ _ h => h) (by rfl) ?yp4 (by assumption) ?rp4
              case yp4 => (intro w hSw; (try dsimp only at hSw); go_simp; try with_reducible rfl)
              try simp only [Act.put, List.setIfInBounds_toArray, List.set_cons_zero, List.set_cons_succ]
              refine take_run (i := 5) (v := ?vp5) rfl (by kernel_rfl) (by kernel_rfl) (by kernel_rfl) (fun _ _ _ h => h) (by rfl) ?yp5 (by assumption) ?rp5
              case yp5 => (intro w hSw; (try dsimp only at hSw); go_simp; try with_reducible rfl)
              try simp only [Act.put, List.setIfInBounds_toArray, List.set_cons_zero, List.set_cons_succ]
              refine take_run (i := 6) (v := ?vp6) rfl (by kernel_rfl) (by kernel_rfl) (by kernel_rfl) (fun _ _ _ h => h) (by rfl) ?yp6 (by assumption) ?rp6
              case yp6 => (intro w hSw; (try dsimp only at hSw); go_simp; try with_reducible rfl)
              try simp only [Act.put, List.setIfInBounds_toArray, List.set_cons_zero, List.set_cons_succ]
              refine take_run (i := 7) (v := ?vp7) rfl (by kernel_rfl) (by kernel_rfl) (by kernel_rfl) (fun _ _ _ h => h) (by rfl) ?yp7 (by assumption) ?rp7
              case yp7 => (intro w hSw; (try dsimp only at hSw); go_simp; try with_reducible rfl)
              try simp only [Act.put, List.setIfInBounds_toArray, List.set_cons_zero, List.set_cons_succ]
              refine take_run (i := 8) (v := ?vp8) rfl (by kernel_rfl) (by kernel_rfl) (by kernel_rfl) (fun _ _ _ h => h) (by rfl) ?yp8 (by assumption) ?rp8
              case yp8 => (intro w hSw; (try dsimp only at hSw); go_simp; try with_reducible rfl)
              try simp only [Act.put, List.setIfInBounds_toArray, List.set_cons_zero, List.set_cons_succ]
              refine take_run (i := 9) (v := ?vp9) rfl (by kernel_rfl) (by kernel_rfl) (by kernel_rfl) (fun _ _ _ h => h) (by rfl) ?yp9 (by assumption) ?rp9
              case yp9 => (intro w hSw; (try dsimp only at hSw); go_simp; try with_reducible rfl)
              try simp only [Act.put, List.setIfInBounds_toArray, List.set_cons_zero, List.set_cons_succ]
              refine take_run (i := 10) (v := ?vp10) rfl (by kernel_rfl) (by kernel_rfl) (by kernel_rfl) (fun _ _ _ h => h) (by rfl) ?yp10 (by assumption) ?rp10
              case yp10 => (intro w hSw; (try dsimp only at hSw); go_simp; try with_reducible rfl)
              try simp only [Act.put, List.setIfInBounds_toArray, List.set_cons_zero, List.set_cons_succ]
              refine take_call (i := 11) rfl (by kernel_rfl) (by rfl) (fun Kq hK => ?_)
              go_simp
              refine hK.out _ _ ?hp11 (fun hHeld => ?rp11)
              case hp11 => ((try dsimp only); go_keep)
              clear hK Kq
              try simp only [Act.put, List.setIfInBounds_toArray, List.set_cons_zero, List.set_cons_succ]
              refine take_run (i := 12) (v := ?vp12) rfl (by kernel_rfl) (by kernel_rfl) (by kernel_rfl) (fun _ _ _ h => h) (by rfl) ?yp12 (by assumption) ?rp12
              case yp12 => (intro w hSw; (try dsimp only at hSw); go_simp; try with_reducible rfl)
              try simp only [Act.put, List.setIfInBounds_toArray, List.set_cons_zero, List.set_cons_succ]
              refine take_run (i := 13) (v := ?vp13) rfl (by kernel_rfl) (by kernel_rfl) (by kernel_rfl) (fun _ _ _ h => h) (by rfl) ?yp13 (by assumption) ?rp13
              case yp13 => (intro w hSw; (try dsimp only at hSw); go_simp; try with_reducible rfl)
              try simp only [Act.put, List.setIfInBounds_toArray, List.set_cons_zero, List.set_cons_succ]
              refine take_run (i := 14) (v := ?vp14) rfl (by kernel_rfl) (by kernel_rfl) (by kernel_rfl) (fun _ _ _ h => h) (by rfl) ?yp14 (by assumption) ?rp14
              case yp14 => (intro w hSw; (try dsimp only at hSw); go_simp; try with_reducible rfl)
              try simp only [Act.put, List.setIfInBounds_toArray, List.set_cons_zero, List.set_cons_succ]
              refine take_run (i := 15) (v := ?vp15) rfl (by kernel_rfl) (by kernel_rfl) (by kernel_rfl) (fun _ _ _ h => h) (by rfl) ?yp15 (by assumption) ?rp15
              case yp15 => (intro w hSw; (try dsimp only at hSw); go_simp; try with_reducible rfl)
              try simp only [Act.put, List.setIfInBounds_toArray, List.set_cons_zero, List.set_cons_succ]
              refine take_call (i := 16) rfl (by kernel_rfl) (by rfl) (fun Kq hK => ?_)
              go_simp
              refine hK.out _ _ ?hp16 (fun hHeld => ?rp16)
              case hp16 => exact HEe.out
              clear hK Kq
              try simp only [Act.put, List.setIfInBounds_toArray, List.set_cons_zero, List.set_cons_succ]
              refine wpAnyH_done (by kernel_rfl) ?_ _
              refine NoPanic.normal ?_
              go_wp2_with fail
              go_roundw
              case rel => exact ⟨u + 1, _, hun, by go_num, by rw [List.length_set]; exact HRlu.out, HRn.out, HFn.out, HKn.out⟩
              case measure => simp [intOf]; omega
             ·simp only [Bool.true_or] at HRn HKn HEe HFn
              go_wp2_with fail
              refine wp_region_noPanic ?_
              refine wp_region_held_drew (S := (fun w' => w'.cell? ⟨wo.heap.size, j, none⟩ = some (.slice (some ⟨wi.heap.size, 0, none⟩) n n))) (by kernel_rfl) ?hq (fun hHeld => ?bq)
              case hq => ((try dsimp only); go_keep)
              refine take_run (i := 0) (v := ?vq0) rfl (by kernel_rfl) (by kernel_rfl) (by kernel_rfl) (fun _ _ _ h => h) (by rfl) ?yq0 (by assumption) ?rq0
              case yq0 => (intro w hSw; (try dsimp only at hSw); go_simp; try with_reducible rfl)
              try simp only [Act.put, List.setIfInBounds_toArray, List.set_cons_zero, List.set_cons_succ]
              refine take_run (i := 1) (v := ?vq1) rfl (by kernel_rfl) (by kernel_rfl) (by kernel_rfl) (fun _ _ _ h => h) (by rfl) ?yq1 (by assumption) ?rq1
              case yq1 => (intro w hSw; (try dsimp only at hSw); go_simp; try with_reducible rfl)
              try simp only [Act.put, List.setIfInBounds_toArray, List.set_cons_zero, List.set_cons_succ]
              refine take_run (i := 2) (v := ?vq2) rfl (by kernel_rfl) (by kernel_rfl) (by kernel_rfl) (fun _ _ _ h => h) (by rfl) ?yq2 (by assumption) ?rq2
              case yq2 => (intro w hSw; (try dsimp only at hSw); go_simp; try with_reducible rfl)
              try simp only [Act.put, List.setIfInBounds_toArray, List.set_cons_zero, List.set_cons_succ]
              refine take_run (i := 3) (v := ?vq3) rfl (by kernel_rfl) (by kernel_rfl) (by kernel_rfl) (fun _ _ _ h => h) (by rfl) ?yq3 (by assumption) ?rq3
              case yq3 => (intro w hSw; (try dsimp only at hSw); go_simp; try with_reducible rfl)
              try simp only [Act.put, List.setIfInBounds_toArray, List.set_cons_zero, List.set_cons_succ]
              refine take_run (i := 4) (v := ?vq4) rfl (by kernel_rfl) (by kernel_rfl) (by kernel_rfl) (fun _ _ _ h => h) (by rfl) ?yq4 (by assumption) ?rq4
              case yq4 => (intro w hSw; (try dsimp only at hSw); go_simp; try with_reducible rfl)
              try simp only [Act.put, List.setIfInBounds_toArray, List.set_cons_zero, List.set_cons_succ]
              refine take_run (i := 5) (v := ?vq5) rfl (by kernel_rfl) (by kernel_rfl) (by kernel_rfl) (fun _ _ _ h => h) (by rfl) ?yq5 (by assumption) ?rq5
              case yq5 => (intro w hSw; (try dsimp only at hSw); go_simp; try with_reducible rfl)
              try simp only [Act.put, List.setIfInBounds_toArray, List.set_cons_zero, List.set_cons_succ]
              refine take_run (i := 6) (v := ?vq6) rfl (by kernel_rfl) (by kernel_rfl) (by kernel_rfl) (fun _ _ _ h => h) (by rfl) ?yq6 (by assumption) ?rq6
              case yq6 => (intro w hSw; (try dsimp only at hSw); go_simp; try with_reducible rfl)
              try simp only [Act.put, List.setIfInBounds_toArray, List.set_cons_zero, List.set_cons_succ]
              refine take_run (i := 7) (v := ?vq7) rfl (by kernel_rfl) (by kernel_rfl) (by kernel_rfl) (fun _ _ _ h => h) (by rfl) ?yq7 (by assumption) ?rq7
              case yq7 => (intro w hSw; (try dsimp only at hSw); go_simp; try with_reducible rfl)
              try simp only [Act.put, List.setIfInBounds_toArray, List.set_cons_zero, List.set_cons_succ]
              refine take_run (i := 8) (v := ?vq8) rfl (by kernel_rfl) (by kernel_rfl) (by kernel_rfl) (fun _ _ _ h => h) (by rfl) ?yq8 (by assumption) ?rq8
              case yq8 => (intro w hSw; (try dsimp only at hSw); go_simp; try with_reducible rfl)
              try simp only [Act.put, List.setIfInBounds_toArray, List.set_cons_zero, List.set_cons_succ]
              refine take_run (i := 9) (v := ?vq9) rfl (by kernel_rfl) (by kernel_rfl) (by kernel_rfl) (fun _ _ _ h => h) (by rfl) ?yq9 (by assumption) ?rq9
              case yq9 => (intro w hSw; (try dsimp only at hSw); go_simp; try with_reducible rfl)
              try simp only [Act.put, List.setIfInBounds_toArray, List.set_cons_zero, List.set_cons_succ]
              refine take_run (i := 10) (v := ?vq10) rfl (by kernel_rfl) (by kernel_rfl) (by kernel_rfl) (fun _ _ _ h => h) (by rfl) ?yq10 (by assumption) ?rq10
              case yq10 => (intro w hSw; (try dsimp only at hSw); go_simp; try with_reducible rfl)
              try simp only [Act.put, List.setIfInBounds_toArray, List.set_cons_zero, List.set_cons_succ]
              refine take_call (i := 11) rfl (by kernel_rfl) (by rfl) (fun Kq hK => ?_)
              go_simp
              refine hK.out _ _ ?hq11 (fun hHeld => ?rq11)
              case hq11 => ((try dsimp only); go_keep)
              clear hK Kq
              try simp only [Act.put, List.setIfInBounds_toArray, List.set_cons_zero, List.set_cons_succ]
              refine take_run (i := 12) (v := ?vq12) rfl (by kernel_rfl) (by kernel_rfl) (by kernel_rfl) (fun _ _ _ h => h) (by rfl) ?yq12 (by assumption) ?rq12
              case yq12 => (intro w hSw; (try dsimp only at hSw); go_simp; try with_reducible rfl)
              try simp only [Act.put, List.setIfInBounds_toArray, List.set_cons_zero, List.set_cons_succ]
              refine take_bar (i := 13) rfl (by kernel_rfl) (by kernel_rfl) (by kernel_rfl) (fun _ _ _ h => h) (by rfl) (by assumption) ?_
              try simp only [Act.put, List.setIfInBounds_toArray, List.set_cons_zero, List.set_cons_succ]
              refine take_run (i := 14) (v := ?vq14) rfl (by kernel_rfl) (by kernel_rfl) (by kernel_rfl) (fun _ _ _ h => h) (by rfl) ?yq14 (by assumption) ?rq14
              case yq14 => (intro w hSw; (try dsimp only at hSw); go_simp; try with_reducible rfl)
              try simp only [Act.put, List.setIfInBounds_toArray, List.set_cons_zero, List.set_cons_succ]
              refine take_run (i := 15) (v := ?vq15) rfl (by kernel_rfl) (by kernel_rfl) (by kernel_rfl) (fun _ _ _ h => h) (by rfl) ?yq15 (by assumption) ?rq15
              case yq15 => (intro w hSw; (try dsimp only at hSw); go_simp; try with_reducible rfl)
              try simp only [Act.put, List.setIfInBounds_toArray, List.set_cons_zero, List.set_cons_succ]
              refine take_call (i := 16) rfl (by kernel_rfl) (by rfl) (fun Kq hK => ?_)
              go_simp
              refine hK.out _ _ ?hq16 (fun hHeld => ?rq16)
              case hq16 => exact HEe.out
              clear hK Kq
              try simp only [Act.put, List.setIfInBounds_toArray, List.set_cons_zero, List.set_cons_succ]
              refine wpAnyH_done (by kernel_rfl) ?_ _
              refine NoPanic.normal ?_
              go_wp2_with fail
              go_roundw
              case rel => exact ⟨u + 1, _, hun, by go_num, by rw [List.length_set]; exact HRlu.out, HRn.out, HFn.out, HKn.out⟩
              case measure => simp [intOf]; omega
            ·have huu : u = n := by omega
             have HFn : Hid (∀ t, t < n → (row2[t]? = some true ↔ FillT prow rs Tp s (kk + 1) 0 t)) := Lib.hid (fun t ht => (HFu.out t ht).trans (by rw [huu, ← HQ2.out.2.2]; exact (FillT.rule HQ2.out.2.1 t).symm))
             clear hR hfill hkp
             go_wp2
             go_roundw
             case rel => exact ⟨kk + 1, row2, hkl, by go_num, HRlu.out, HRu.out, HFn.out, HKu.out⟩
             case measure => simp [intOf]; omega
          ·have hle : (ql != (y : Int)) = true := by simp [hql]
           have HFn : Hid (∀ t, t < n → (row1[t]? = some true ↔ FillT prow rs Tp s (kk + 1) 0 t)) := Lib.hid (fun t ht => (HFk.out t ht).trans (FillT.skip HX.out HQ2.out.1 hql t).symm)
           clear hql
           go_wp2
           go_roundw
           case rel => exact ⟨kk + 1, row1, hkl, by go_num, HRlk.out, HRx.out, HFn.out, HKx.out⟩
           case measure => simp [intOf]; omega
         ·have hke : kk = rs.length := by omega
          have HFn : Hid (∀ t, t < n → (row1[t]? = some true ↔ FillP k prow rs Tp (s + 1) t)) := Lib.hid (fun t ht => (HFk.out t ht).trans (by rw [hke]; exact ⟨fun h => .inr ⟨HK0.out, (FillT.place t).2 h⟩, fun h => by rcases h with ⟨h, _⟩ | ⟨_, h⟩; exact absurd h HK0.out; exact (FillT.place t).1 h⟩))
          go_wp2
          go_roundw
          case rel => exact ⟨s + 1, row1, hsl, by go_num, HRlk.out, HRk.out, HFn.out, HKk.out⟩
          case measure => simp [intOf]; omega
      ·have hss : s = prow.length := by omega
       have HNx : Hid (∀ (p : Nat) (q : Rule) (r : List Bool), rs[p]? = some q → (f ++ [row])[p]? = some r → r.length = n ∧ ∀ t, t < n → (r[t]? = some true ↔ TabR ⟨gt, (n : Int), gs, rs⟩ k q t)) := Lib.hid (fun p q' r hp hr => by
        have hfl : f.length = j := by rw [HR.out.flen, HBl.out]
        rcases Nat.lt_or_ge p f.length with hlt | hge
        ·rw [List.getElem?_append_left hlt] at hr
         exact HRows.out p q' r hp hr
        ·rw [List.getElem?_append_right hge] at hr
         have e : p = j := by have := (List.getElem?_eq_some_iff.1 hr).1; simp at this; omega
         subst e
         rw [hfl, Nat.sub_self] at hr
         simp at hr
         subst hr
         rw [HQ.out.1] at hp
         injection hp with hp
         subst hp
         refine ⟨HRl.out, fun t ht => (HFl.out t ht).trans ?_⟩
         rw [hss]
         exact FillP.all (g := ⟨gt, (n : Int), gs, rs⟩) HPr.out (fun h => (HTp.out h).2) t ht)
       go_wp2
       go_roundw
       case rel => exact ⟨j + 1, bs ++ [wi.heap.size], f ++ [row], hjn, by go_num, by simp [HBl.out], HRm.out, HNx.out, HKm.out⟩
       case measure => simp [intOf]; omega
    ·have hjj : j = rs.length := by omega
     have hcap1 : (T.length + 1) * 24 ≤ 140737488355328 := by have := HTl.out; omega
     have hcap2 : T.length + 1 ≤ 9223372036854775807 := by have := HTl.out; omega
     have hko : Kept (fun b => b = wo.heap.size) wo wi := (Kept.of_below (fun b => b = wo.heap.size) HB2.out).trans HK.out
     have hbo : Below wo.heap.size wo wi := HB2.out.trans (HK.out.to_below (B := wo.heap.size) (fun b hb => by omega) (by omega))
     have HBo := Lib.hid (bthen HB.out hbo HB.out.size)
     have HO2 := Lib.hid ((HO.out.below hbo (Nat.le_refl _)).alloc (.cells #[.slice (some ⟨wo.heap.size, 0, none⟩) rs.length rs.length] 112))
     have HRM := Lib.hid (HR.out.done (by omega) (by omega))
     have hfl : f.length = rs.length := by rw [HR.out.flen, HBl.out, hjj]
     have HTn : Hid (TabT ⟨gt, (n : Int), gs, rs⟩ n (T ++ [f])) := Lib.hid (fun k' rows hr => by
      rcases Nat.lt_or_ge k' T.length with hlt | hge
      ·rw [List.getElem?_append_left hlt] at hr
       exact HT.out k' rows hr
      ·rw [List.getElem?_append_right hge] at hr
       have e : k' = k := by have := (List.getElem?_eq_some_iff.1 hr).1; have := HTl.out; simp at *; omega
       subst e
       rw [HTl.out, Nat.sub_self] at hr
       simp at hr
       subst hr
       exact ⟨hfl, HRows.out⟩)
     have hba3 : Below wi.heap.size wi (wi.alloc (.cells #[.slice (some ⟨wo.heap.size, 0, none⟩) rs.length rs.length] 112)) := (Below.refl _ _).alloc (Nat.le_refl _) _
     have HRd : Hid (Dat.rd (wi.alloc (.cells #[.slice (some ⟨wo.heap.size, 0, none⟩) rs.length rs.length] 112)) (OwnT (fun _ => False) w.heap.size (.slice AT T.length cT) (wi.alloc (.cells #[.slice (some ⟨wo.heap.size, 0, none⟩) rs.length rs.length] 112))) f [.slice (some ⟨wo.heap.size, 0, none⟩) rs.length rs.length]) := Lib.hid ⟨some ⟨wo.heap.size, 0, none⟩, rs.length, by rw [hfl], by rw [hfl]; exact Nat.le_refl _, by simp [maxLen]; omega, (HRM.out.elsR (by omega) (fun b => wo.heap.size ≤ b ∧ b < wi.heap.size) (fun b hb => by
      rcases List.mem_cons.1 hb with rfl | hb
      ·exact ⟨Nat.le_refl _, HRM.out.bflt⟩
      ·exact ⟨Nat.le_of_lt (HR.out.lt b hb).1, (HR.out.lt b hb).2⟩) |>.below hba3).keep (fun _ _ _ => rfl) (fun b hb => by
      have h1 := HB.out.size
      refine ⟨.inr (by omega), fun e => ?_, Nat.lt_of_lt_of_le hb.2 hba3.size⟩
      have h3 := (HO.out.block b e).2
      omega)⟩
     clear hko hbo hba3 hfl hR hrows hkp hbl
     go_wp2_with (at_builtin; refine wpList_own1 _ rfl _ _ elemBoolss rfl rfl HO2.out f [.slice (some ⟨wo.heap.size, 0, none⟩) rs.length rs.length] rfl (At.new _ _ _) HRd.out hcap1 hcap2 (Nat.le_trans HBo.out.size ((Below.refl _ _).alloc (Nat.le_refl _) _).size) ?_; intro v' w3 hown3 hg3 hat3; have H3 := Lib.hid (And.intro hown3 hg3); clear hown3 hg3 hat3)
     go_roundw
     case rel => exact ⟨k + 1, T ++ [f], hkn, by go_num, H3.out.1, by rw [List.length_append, HTl.out]; rfl, HTn.out, bgrown (HBo.out.alloc HBo.out.size _) H3.out.2 HO2.out (Nat.le_refl _) (Nat.le_trans HBo.out.size ((Below.refl _ _).alloc (Nat.le_refl _) _).size)⟩
     case measure => simp [intOf]; omega
  ·have hkk : k = n := by omega
   go_wp2
   go_ret
   exact ⟨_, T, rfl, by rw [HTl.out, hkk], HT.out, HO.out, HB.out⟩
end Go.Proofs.YtjdojogjogenkaaDoor
