/- Contracts: cycle.Find and cycle.Cyclic: the first shortest cycle. -/
import Derived.Test.YtjdojogjogenkaaDoorQCycTab
import Derived.Test.YtjdojogjogenkaaDoorQCycLoopsP
namespace Go.Proofs.YtjdojogjogenkaaDoor
open Go.RowKit
set_option linter.unusedVariables false
theorem Own.lit1 {w : World} (S : Nat → Prop) {base : Nat} {e : TypeId} {x : Int} (hb : base ≤ w.heap.size) (hx : I64 x) : Own (w.alloc (.cells #[.int .i64 x] e)) S base e (.slice (some ⟨w.heap.size, 0, none⟩) 1 1) [x] := by
 refine ⟨[[Value.int .i64 x]], ⟨rfl, .inr ⟨w.heap.size, 1, #[.int .i64 x], rfl, hb, heap_alloc_new w _, Nat.le_refl _, by simp [maxLen], rfl, rfl⟩⟩, rfl, ?_⟩
 intro i y cs hi hc
 cases i with
 | zero => simp at hi hc; subst hi; subst hc; exact ⟨rfl, hx⟩
 | succ i => simp at hi
section
variable {g : Gram} {k i t p : Nat} {l : List Int} {q : Rule}
theorem CycTo.start : CycTo g k i t 0 [(i : Int)] := ⟨rfl, rfl, fun r x y h1 h2 => by simp at h2⟩
theorem CycTo.snoc (h : CycTo g k i t p l) {x y : Int} (hx : l[p]? = some x) (hn : NextOk g x y (k - 2 - p) t) (hz : ∀ z : Int, 0 ≤ z → z < y → ¬ NextOk g x z (k - 2 - p) t) : CycTo g k i t (p + 1) (l ++ [y]) := by
 refine ⟨by rw [List.length_append, h.len]; rfl, by rw [List.getElem?_append_left (by rw [h.len]; omega)]; exact h.head, fun r a b h1 h2 => ?_⟩
 rcases Nat.lt_or_ge (r + 1) l.length with hlt | hge
 ·rw [List.getElem?_append_left hlt] at h2
  rw [List.getElem?_append_left (by omega)] at h1
  exact h.next r a b h1 h2
 ·rw [List.getElem?_append_right hge] at h2
  have e : r = p := by have := (List.getElem?_eq_some_iff.1 h2).1; have := h.len; simp at *; omega
  subst e
  rw [List.getElem?_append_left (by rw [h.len]; omega), hx] at h1
  injection h1 with h1
  rw [h.len, Nat.sub_self] at h2
  simp at h2
  subst h1; subst h2
  exact ⟨hn, hz⟩
end
def FdWay (g : Gram) (k i t p : Nat) (l : List Int) : Prop := CycTo g k i t p l ∧ ∃ (x : Int) (qx : Rule), l[p]? = some x ∧ RuleAt g x qx ∧ TabR g (k - 1 - p) qx t
theorem FdWay.some_next {g : Gram} {k i t p : Nat} {l : List Int} (h : FdWay g k i t p l) (hp : p + 2 ≤ k) {x : Int} (hx : l[p]? = some x) : ∃ z : Nat, z < g.rules.length ∧ NextOk g x (z : Int) (k - 2 - p) t := by
 obtain ⟨h1, x', qx, h2, h3, h4⟩ := h
 rw [hx] at h2
 injection h2 with h2
 subst h2
 rw [show k - 1 - p = (k - 2 - p) + 1 from by omega] at h4
 obtain ⟨c, h5, q', h6, h7, h8⟩ := h4
 obtain ⟨z, hz⟩ := List.mem_iff_getElem?.1 h6
 exact ⟨z, (List.getElem?_eq_some_iff.1 hz).1, qx, q', h3, ⟨by omega, by simpa using hz⟩, by rw [h7]; exact h5, h8⟩
def FdO (g : Gram) (n : Nat) (w3 : World) (v : Value) (wr : World) : Prop :=
 ∃ k : Nat, 1 ≤ k ∧ k ≤ n + 1 ∧ v = .int .i64 k ∧ (∀ k', 1 ≤ k' → k' < k → ∀ q' ∈ g.rules, ¬ TabR g (k' - 1) q' q'.left.toNat) ∧ Below w3.heap.size w3 wr
def FdI (g : Gram) (k : Nat) (w3 : World) (i : Value) (wr : World) : Prop :=
 ∃ j : Nat, j ≤ g.rules.length ∧ i = .int .i64 j ∧ (∀ i', i' < j → ∀ q', g.rules[i']? = some q' → ¬ TabR g (k - 1) q' q'.left.toNat) ∧ Below w3.heap.size w3 wr
def FdW (g : Gram) (k i t : Nat) (wq : World) (v m : Value) (wr : World) : Prop :=
 ∃ (p : Nat) (l : List Int), p + 1 ≤ k ∧ m = .int .i64 ((k : Int) - 2 - p) ∧ FdWay g k i t p l ∧ Own wr (fun _ => False) wq.heap.size 3 v l ∧ Below wq.heap.size wq wr
def FdK (g : Gram) (x : Int) (more t : Nat) (wz : World) (i : Value) (wr : World) : Prop :=
 ∃ kk : Nat, kk ≤ g.rules.length ∧ i = .int .i64 kk ∧ (∀ z : Int, 0 ≤ z → z < (kk : Int) → ¬ NextOk g x z more t) ∧ Below wz.heap.size wz wr
def RetFind (g : Gram) (n : Nat) (w : World) (e : Ending) (w' : World) : Prop :=
 (e = .returned (.slice none 0 0) ∧ NoCyc g n ∧ Below w.heap.size w w') ∨ (∃ (v : Value) (k i : Nat) (q : Rule) (l : List Int), e = .returned v ∧ CycF g n k i q l ∧ Own w' (fun _ => False) w.heap.size 3 v l ∧ Below w.heap.size w w')
set_option maxRecDepth 100000 in
set_option maxHeartbeats 16000000 in
theorem find_any (g : Gram) (m n : Nat) (A : Option Addr) (c : Nat) (S : Nat → Prop) (w : World) (hgt : g.terms = (m : Int)) (hgn : g.nons = (n : Int)) (hck : checkI g = 0) (hlc : g.rules.length ≤ c) (hc : c ≤ 9223372036854775807) (hA : Els w S g.rules A) (hS : ∀ b, S b → b < w.heap.size) :
  Calls Tryd.prog 71 #[.agg #[.int .i64 g.terms, .int .i64 g.nons, .int .i64 g.start, .slice A g.rules.length c]] w (RetFind g n w) := by
 have hv := validG_of hck
 have hpi := passIn_of hv hgn
 have hpp := passes_any g m n A c S (w.alloc (.cells #[.int .i64 g.terms, .int .i64 g.nons, .int .i64 g.start, .slice A g.rules.length c] 24)).drew hgt hgn hck hlc hc (hA.below ((Below.refl _ _).alloc (Nat.le_refl _) _).drew) (fun b hb => by have := hS b hb; show b < (w.alloc _).heap.size; simp; omega)
 obtain ⟨gt, gn, gs, rs⟩ := g
 dsimp only at *
 subst hgt; subst hgn
 have hn : 1 ≤ n ∧ n ≤ 100 := by have := hv.n1; have := hv.n10; dsimp only at *; omega
 have hrl : rs.length ≤ 32 := hv.len
 have hq4 : ∀ q ∈ rs, q.right.length ≤ 4 := fun q hq => (hv.rules q hq).2.2.1
 have hn9 : (n : Int) ≤ 100 := by omega
 have HPP := Lib.hid hpp
 have HPI := Lib.hid hpi
 have HQ4 := Lib.hid hq4
 have HA := Lib.hid hA
 have HS := Lib.hid hS
 have HG0 := Lib.hid (Blk'.new w 24 #[.int .i64 (m : Int), .int .i64 (n : Int), .int .i64 gs, .slice A rs.length c])
 have HB0 : Hid (Below w.heap.size w (w.alloc (.cells #[.int .i64 (m : Int), .int .i64 (n : Int), .int .i64 gs, .slice A rs.length c] 24))) := Lib.hid ((Below.refl _ _).alloc (Nat.le_refl _) _)
 clear hv hA hS hpi hpp hq4
 go_enter Tryd.func71, Tryd.ntmps71
 go_upto_region 1 with (fail)
 obtain ⟨w0, hw0⟩ : ∃ w0 : World, w0 = w.alloc (.cells #[.int .i64 (m : Int), .int .i64 (n : Int), .int .i64 gs, .slice A rs.length c] 24) := ⟨_, rfl⟩
 rw [← hw0] at HPP HG0 HB0 ⊢
 have z0 : w.heap.size < w0.heap.size := HG0.out.lt
 have a0 : w0.cell? ⟨w.heap.size, 0, none⟩ = some (.int .i64 (m : Int)) := HG0.out.cell 0
 have a1 : w0.cell? ⟨w.heap.size, 1, none⟩ = some (.int .i64 (n : Int)) := HG0.out.cell 1
 have a2 : w0.cell? ⟨w.heap.size, 2, none⟩ = some (.int .i64 gs) := HG0.out.cell 2
 have a3 : w0.cell? ⟨w.heap.size, 3, none⟩ = some (.slice A rs.length c) := HG0.out.cell 3
 clear hw0
 refine wp_region_noPanic ?_
 refine wp_region_held_drew (S := (fun w' => w'.cell? ⟨w.heap.size, 0, none⟩ = some (.int .i64 (m : Int)) ∧ w'.cell? ⟨w.heap.size, 1, none⟩ = some (.int .i64 (n : Int)) ∧ w'.cell? ⟨w.heap.size, 2, none⟩ = some (.int .i64 gs) ∧ w'.cell? ⟨w.heap.size, 3, none⟩ = some (.slice A rs.length c))) (by kernel_rfl) ?he (fun hHeld => ?be)
 case he => ((try dsimp only); go_keep)
 refine take_run (i := 0) (v := ?ve0) rfl (by kernel_rfl) (by kernel_rfl) (by kernel_rfl) (fun _ _ _ h => h) (by rfl) ?ye0 (by assumption) ?re0
 case ye0 => (intro w hSw; (try dsimp only at hSw); go_simp; try with_reducible rfl)
 try simp only [Act.put, List.setIfInBounds_toArray, List.set_cons_zero, List.set_cons_succ]
 refine take_run (i := 1) (v := ?ve1) rfl (by kernel_rfl) (by kernel_rfl) (by kernel_rfl) (fun _ _ _ h => h) (by rfl) ?ye1 (by assumption) ?re1
 case ye1 => (intro w hSw; (try dsimp only at hSw); go_simp; try with_reducible rfl)
 try simp only [Act.put, List.setIfInBounds_toArray, List.set_cons_zero, List.set_cons_succ]
 refine take_call (i := 2) rfl (by kernel_rfl) (by rfl) (fun Kq hK => ?_)
 go_simp
 go_at_call 60
 refine HPP.out.mono ?_
 rintro e w2 ⟨v2, out, rfl, hpl, hown, hb2⟩
 obtain ⟨Ap, cp, rfl, hcp1, hcp2, _⟩ := hown.form
 have HPL := Lib.hid hpl
 have HO := Lib.hid hown
 have HOl2 : Hid (out.length = rs.length) := Lib.hid hpl.1
 have HB2' : Hid (Below w0.heap.size w0 w2) := Lib.hid (bundrew hb2)
 have HB2 := Lib.hid (bthen HB0.out HB2'.out HB0.out.size)
 have b0 := (HB2'.out.cell (p := ⟨w.heap.size, 0, none⟩) z0).trans a0
 have b1 := (HB2'.out.cell (p := ⟨w.heap.size, 1, none⟩) z0).trans a1
 have b2 := (HB2'.out.cell (p := ⟨w.heap.size, 2, none⟩) z0).trans a2
 have b3 := (HB2'.out.cell (p := ⟨w.heap.size, 3, none⟩) z0).trans a3
 have zw2 : w.heap.size < w2.heap.size := by have := HB2'.out.size; omega
 clear hpl hown hb2
 refine hK.out _ _ ?he2 (fun hHeld => ?re2)
 case he2 => ((try dsimp only); go_keep)
 clear hK Kq
 try simp only [Act.put, List.setIfInBounds_toArray, List.set_cons_zero, List.set_cons_succ]
 refine take_run (i := 3) (v := ?ve3) rfl (by kernel_rfl) (by kernel_rfl) (by kernel_rfl) (fun _ _ _ h => h) (by rfl) ?ye3 (by assumption) ?re3
 case ye3 => (intro w hSw; (try dsimp only at hSw); go_simp; try with_reducible rfl)
 try simp only [Act.put, List.setIfInBounds_toArray, List.set_cons_zero, List.set_cons_succ]
 refine take_call (i := 4) rfl (by kernel_rfl) (by rfl) (fun Kq hK => ?_)
 go_simp
 refine hK.out _ _ ?he4 (fun hHeld => ?re4)
 case he4 => ((try dsimp only); go_keep)
 clear hK Kq
 try simp only [Act.put, List.setIfInBounds_toArray, List.set_cons_zero, List.set_cons_succ]
 refine take_run (i := 5) (v := ?ve5) rfl (by kernel_rfl) (by kernel_rfl) (by kernel_rfl) (fun _ _ _ h => h) (by rfl) ?ye5 (by assumption) ?re5
 case ye5 => (intro w hSw; (try dsimp only at hSw); go_simp; try with_reducible rfl)
 try simp only [Act.put, List.setIfInBounds_toArray, List.set_cons_zero, List.set_cons_succ]
 refine wpAnyH_done (by kernel_rfl) ?_ _
 refine NoPanic.normal ?_
 go_wp2_with fail
 clear b0 b1 b2 b3
 have HFb : Hid (Blk' (w2.alloc (.cells #[.int .i64 (m : Int), .int .i64 (n : Int), .int .i64 gs, .slice A rs.length c, .slice Ap out.length cp] 180)) w2.heap.size 180 #[.int .i64 (m : Int), .int .i64 (n : Int), .int .i64 gs, .slice A rs.length c, .slice Ap out.length cp]) := Lib.hid (Blk'.new _ _ _)
 have hbf : Below w2.heap.size w2 (w2.alloc (.cells #[.int .i64 (m : Int), .int .i64 (n : Int), .int .i64 gs, .slice A rs.length c, .slice Ap out.length cp] 180)) := (Below.refl _ _).alloc (Nat.le_refl _) _
 have HBf := Lib.hid (bthen HB2.out hbf HB2.out.size)
 have HPE := Lib.hid (HO.out.vl.els.2.2.2.below hbf)
 clear hbf
 refine (table_any ⟨(m : Int), (n : Int), gs, rs⟩ n w2.heap.size A Ap c cp S _ out _ HFb.out rfl hn hrl (HA.out.belowB HBf.out HS.out) (fun b hb => by have := HS.out b hb; have := HBf.out.size; omega) HPE.out (fun b hb => by have := hb.2; simp; omega) HPL.out HPI.out HQ4.out).mono ?_
 rintro e w3 ⟨v3, T, rfl, hTl, hT, hown3, hb3⟩
 obtain ⟨AT, cT, rfl, hcT1, hcT2, _⟩ := hown3.form
 have HT := Lib.hid hT
 have HTl := Lib.hid hTl
 have HB3 := Lib.hid (bthen HBf.out hb3 HBf.out.size)
 have HG2 := Lib.hid (HG0.out.below HB2'.out HG0.out.lt)
 have HG3 := Lib.hid ((HG2.out.alloc (.cells #[.int .i64 (m : Int), .int .i64 (n : Int), .int .i64 gs, .slice A rs.length c, .slice Ap out.length cp] 180)).below hb3 (by simp; omega))
 have HF3 := Lib.hid (HFb.out.below hb3 (by simp))
 have HPE3 := Lib.hid (HPE.out.belowB hb3 (fun b hb => by have := hb.2; simp; omega))
 have HTE := Lib.hid hown3.vl.els.2.2.2
 have HPEs : Hid (∀ b, ((False ∨ w0.heap.size ≤ b) ∧ b < w2.heap.size) → b < w3.heap.size) := Lib.hid (fun b hb => by have := hb.2; have := hb3.size; simp at this; omega)
 have a1 : w3.cell? ⟨w.heap.size, 1, none⟩ = some (.int .i64 (n : Int)) := HG3.out.cell 1
 have zG3 : w.heap.size < w3.heap.size := HG3.out.lt
 have zF3 : w2.heap.size < w3.heap.size := HF3.out.lt
 clear hT hTl hown3 hb3
 go_wp2_with fail
 go_loopw [5] (fun v wr => FdO ⟨(m : Int), (n : Int), gs, rs⟩ n w3 v wr) (fun v _ => n + 1 - (intOf v).toNat)
 case atStart => exact ⟨1, Nat.le_refl _, by omega, rfl, (fun k' h1 h2 => by omega), Below.refl _ _⟩
 case round =>
  obtain ⟨wo, hwo⟩ : ∃ wo : World, wo = wr := ⟨_, rfl⟩
  subst hwo
  obtain ⟨k, hk1, hk2, rfl, hno, hb⟩ := hrel
  have HNo := Lib.hid hno
  have HB := Lib.hid hb
  have hGo := HG3.out.below hb HG3.out.lt
  have o1 : wo.cell? ⟨w.heap.size, 1, none⟩ = some (.int .i64 (n : Int)) := hGo.cell 1
  have o3 : wo.cell? ⟨w.heap.size, 3, none⟩ = some (.slice A rs.length c) := hGo.cell 3
  have zGo : w.heap.size < wo.heap.size := hGo.lt
  clear hno hb hGo a1
  by_cases hkn : k ≤ n
  ·have hk9 : (k : Int) ≤ (n : Int) := by omega
   have hk0 : (1 : Int) ≤ (k : Int) := by omega
   obtain ⟨rows, hrows⟩ := get_some (show k - 1 < T.length by rw [HTl.out]; omega)
   have HRows := Lib.hid (And.intro hrows (HT.out (k - 1) rows hrows))
   clear hrows
   go_wp2_with fail
   clear o1 o3
   go_loopw [31] (fun i wr => FdI ⟨(m : Int), (n : Int), gs, rs⟩ k w3 i wr) (fun i _ => rs.length - (intOf i).toNat)
   case atStart => exact ⟨0, Nat.zero_le _, rfl, (fun i' h => by omega), HB.out⟩
   case round =>
    obtain ⟨wi, hwi⟩ : ∃ wi : World, wi = wr := ⟨_, rfl⟩
    subst hwi
    obtain ⟨j, hj, rfl, hno, hb⟩ := hrel
    dsimp only at hj
    have HNi := Lib.hid hno
    have HBi := Lib.hid hb
    clear hno hb
    by_cases hjn : j < rs.length
    ·obtain ⟨q, hq⟩ := get_some hjn
     have hbw := bthen HB3.out HBi.out HB3.out.size
     obtain ⟨bq, oq, Aq, cq, rfl, hSb, hbs, hqi, hrc, hcr, hEr, hc0, hc1⟩ := (HA.out.belowB hbw HS.out).rule hq
     have hql := HPI.out.left q (List.mem_of_getElem? hq)
     obtain ⟨row, hrow⟩ := get_some (show j < rows.length by rw [HRows.out.2.1]; exact hjn)
     have hrw := HRows.out.2.2 j q row hq hrow
     have HQ := Lib.hid (And.intro hq (And.intro hrow hrw))
     obtain ⟨ql, qr⟩ := q
     dsimp only at hqi hrc hcr hEr hc0 hc1 hql
     obtain ⟨y, rfl⟩ : ∃ y : Nat, ql = (y : Int) := ⟨ql.toNat, by omega⟩
     have hyn : y < n := by omega
     have hy9 : (y : Int) < (n : Int) := by omega
     have hy0 : (0 : Int) ≤ (y : Int) := by omega
     have hj0 : (0 : Int) ≤ (j : Int) := by omega
     have hj9 : (j : Int) < (rs.length : Int) := by omega
     obtain ⟨x, hx⟩ := get_some (show y < row.length by rw [hrw.1]; exact hyn)
     have HX : Hid (x = true ↔ TabR ⟨(m : Int), (n : Int), gs, rs⟩ (k - 1) ⟨(y : Int), qr⟩ y) := Lib.hid (by rw [← hrw.2 y hyn, hx]; simp)
     obtain ⟨wq, hwq⟩ : ∃ wq : World, wq = wi.alloc (.cells #[.int .i64 (y : Int), .slice Aq qr.length cq] 60) := ⟨_, rfl⟩
     have HWq := Lib.hid hwq
     have hbq : Below wi.heap.size wi wq := by rw [hwq]; exact (Below.refl _ _).alloc (Nat.le_refl _) _
     have HBq := Lib.hid (bthen HBi.out hbq HBi.out.size)
     have HQb : Hid (Blk' wq wi.heap.size 60 #[.int .i64 (y : Int), .slice Aq qr.length cq]) := Lib.hid (by rw [hwq]; exact Blk'.new _ _ _)
     have hz3i : w3.heap.size ≤ wi.heap.size := HBi.out.size
     have hziq : wi.heap.size < wq.heap.size := HQb.out.lt
     have hTq : Els wq (fun b => (False ∨ (w2.heap.size + 1) ≤ b) ∧ b < w3.heap.size) T AT := (HTE.out.keep (fun _ _ _ => rfl) (fun b hb => by simpa using hb)).belowB HBq.out (fun b hb => hb.2)
     obtain ⟨b1, o1, A1, c1, rfl, hS1, hb1, ht1, hc11, hc12, hE1⟩ := hTq.rowS HRows.out.1
     obtain ⟨b2, o2, A2, c2, rfl, hS2, hb22, ht2, hc21, hc22, hE2⟩ := hE1.rowS hrow
     obtain ⟨b3, o3, rfl, hS3, hb33, ht3⟩ := hE2.bool hx
     have q0 : wq.cell? ⟨wi.heap.size, 0, none⟩ = some (.int .i64 (y : Int)) := HQb.out.cell 0
     have hTL := HTl.out
     have hRL := HRows.out.2.1
     have hWL := hrw.1
     have hkm1 : IntKind.i64.wrap ((k : Int) - 1) = ((k - 1 : Nat) : Int) := by rw [IntWalk.i64_in _ (by omega)]; omega
     have hkm2 : ((k - 1 : Nat) : Int) < (T.length : Int) := by omega
     have hkm3 : (0 : Int) ≤ ((k - 1 : Nat) : Int) := by omega
     have hj9r : (j : Int) < (rows.length : Int) := by dsimp only at hRL; omega
     have hy9r : (y : Int) < (row.length : Int) := by omega
     have HL := Lib.hid (And.intro hTL (And.intro hRL hWL))
     clear hq hrow hrw hx hwq hbq hTq hE1 hE2 hEr hqi hbw hTL hRL hWL hql
     go_upto_region 9 with (fail)
     rw [← HWq.out]
     clear hc0 hc1
     cases x
     ·have HNn : Hid (∀ i', i' < j + 1 → ∀ q', rs[i']? = some q' → ¬ TabR ⟨(m : Int), (n : Int), gs, rs⟩ (k - 1) q' q'.left.toNat) := Lib.hid (fun i' h q' hq' ht => by
       by_cases e : i' = j
       ·subst e
        rw [HQ.out.1] at hq'
        injection hq' with hq'
        subst hq'
        have := HX.out.2 ht
        cases this
       ·exact HNi.out i' (by omega) q' hq' ht)
      refine wp_region_noPanic ?_
      refine wp_region_held_drew (S := (fun w' => w'.cell? ⟨b1, o1 + (k - 1), none⟩ = some (.slice (some ⟨b2, o2, none⟩) rows.length c1) ∧ w'.cell? ⟨b2, o2 + j, none⟩ = some (.slice (some ⟨b3, o3, none⟩) row.length c2) ∧ w'.cell? ⟨wi.heap.size, 0, none⟩ = some (.int .i64 (y : Int)) ∧ w'.cell? ⟨b3, o3 + y, none⟩ = some (.bool false))) (by kernel_rfl) ?hf (fun hHeld => ?bf)
      case hf => ((try dsimp only); go_keep)
      refine take_run (i := 0) (v := ?vf0) rfl (by kernel_rfl) (by kernel_rfl) (by kernel_rfl) (fun _ _ _ h => h) (by rfl) ?yf0 (by assumption) ?rf0
      case yf0 => (intro w hSw; (try dsimp only at hSw); go_simp; try with_reducible rfl)
      try simp only [Act.put, List.setIfInBounds_toArray, List.set_cons_zero, List.set_cons_succ]
      refine take_run (i := 1) (v := ?vf1) rfl (by kernel_rfl) (by kernel_rfl) (by kernel_rfl) (fun _ _ _ h => h) (by rfl) ?yf1 (by assumption) ?rf1
      case yf1 => (intro w hSw; (try dsimp only at hSw); go_simp; try with_reducible rfl)
      try simp only [Act.put, List.setIfInBounds_toArray, List.set_cons_zero, List.set_cons_succ]
      refine take_run (i := 2) (v := ?vf2) rfl (by kernel_rfl) (by kernel_rfl) (by kernel_rfl) (fun _ _ _ h => h) (by rfl) ?yf2 (by assumption) ?rf2
      case yf2 => (intro w hSw; (try dsimp only at hSw); go_simp; try with_reducible rfl)
      try simp only [Act.put, List.setIfInBounds_toArray, List.set_cons_zero, List.set_cons_succ]
      refine take_run (i := 3) (v := ?vf3) rfl (by kernel_rfl) (by kernel_rfl) (by kernel_rfl) (fun _ _ _ h => h) (by rfl) ?yf3 (by assumption) ?rf3
      case yf3 => (intro w hSw; (try dsimp only at hSw); go_simp; try with_reducible rfl)
      try simp only [Act.put, List.setIfInBounds_toArray, List.set_cons_zero, List.set_cons_succ]
      refine take_run (i := 4) (v := ?vf4) rfl (by kernel_rfl) (by kernel_rfl) (by kernel_rfl) (fun _ _ _ h => h) (by rfl) ?yf4 (by assumption) ?rf4
      case yf4 => (intro w hSw; (try dsimp only at hSw); go_simp; try with_reducible rfl)
      try simp only [Act.put, List.setIfInBounds_toArray, List.set_cons_zero, List.set_cons_succ]
      refine take_run (i := 5) (v := ?vf5) rfl (by kernel_rfl) (by kernel_rfl) (by kernel_rfl) (fun _ _ _ h => h) (by rfl) ?yf5 (by assumption) ?rf5
      case yf5 => (intro w hSw; (try dsimp only at hSw); go_simp; try with_reducible rfl)
      try simp only [Act.put, List.setIfInBounds_toArray, List.set_cons_zero, List.set_cons_succ]
      refine take_run (i := 6) (v := ?vf6) rfl (by kernel_rfl) (by kernel_rfl) (by kernel_rfl) (fun _ _ _ h => h) (by rfl) ?yf6 (by assumption) ?rf6
      case yf6 => (intro w hSw; (try dsimp only at hSw); go_simp; try with_reducible rfl)
      try simp only [Act.put, List.setIfInBounds_toArray, List.set_cons_zero, List.set_cons_succ]
      refine take_run (i := 7) (v := ?vf7) rfl (by kernel_rfl) (by kernel_rfl) (by kernel_rfl) (fun _ _ _ h => h) (by rfl) ?yf7 (by assumption) ?rf7
      case yf7 => (intro w hSw; (try dsimp only at hSw); go_simp; try with_reducible rfl)
      try simp only [Act.put, List.setIfInBounds_toArray, List.set_cons_zero, List.set_cons_succ]
      refine take_run (i := 8) (v := ?vf8) rfl (by kernel_rfl) (by kernel_rfl) (by kernel_rfl) (fun _ _ _ h => h) (by rfl) ?yf8 (by assumption) ?rf8
      case yf8 => (intro w hSw; (try dsimp only at hSw); go_simp; try with_reducible rfl)
      try simp only [Act.put, List.setIfInBounds_toArray, List.set_cons_zero, List.set_cons_succ]
      refine take_run (i := 9) (v := ?vf9) rfl (by kernel_rfl) (by kernel_rfl) (by kernel_rfl) (fun _ _ _ h => h) (by rfl) ?yf9 (by assumption) ?rf9
      case yf9 => (intro w hSw; (try dsimp only at hSw); go_simp; try with_reducible rfl)
      try simp only [Act.put, List.setIfInBounds_toArray, List.set_cons_zero, List.set_cons_succ]
      refine take_run (i := 10) (v := ?vf10) rfl (by kernel_rfl) (by kernel_rfl) (by kernel_rfl) (fun _ _ _ h => h) (by rfl) ?yf10 (by assumption) ?rf10
      case yf10 => (intro w hSw; (try dsimp only at hSw); go_simp; try with_reducible rfl)
      try simp only [Act.put, List.setIfInBounds_toArray, List.set_cons_zero, List.set_cons_succ]
      refine take_run (i := 11) (v := ?vf11) rfl (by kernel_rfl) (by kernel_rfl) (by kernel_rfl) (fun _ _ _ h => h) (by rfl) ?yf11 (by assumption) ?rf11
      case yf11 => (intro w hSw; (try dsimp only at hSw); go_simp; try with_reducible rfl)
      try simp only [Act.put, List.setIfInBounds_toArray, List.set_cons_zero, List.set_cons_succ]
      refine take_run (i := 12) (v := ?vf12) rfl (by kernel_rfl) (by kernel_rfl) (by kernel_rfl) (fun _ _ _ h => h) (by rfl) ?yf12 (by assumption) ?rf12
      case yf12 => (intro w hSw; (try dsimp only at hSw); go_simp; try with_reducible rfl)
      try simp only [Act.put, List.setIfInBounds_toArray, List.set_cons_zero, List.set_cons_succ]
      refine wpAnyH_done (by kernel_rfl) ?_ _
      refine NoPanic.normal ?_
      go_wp2
      go_roundw
      case rel => exact ⟨j + 1, hjn, by go_num, HNn.out, HBq.out.drew⟩
      case measure => simp [intOf]; omega
     ·have HXt := Lib.hid (HX.out.1 rfl)
      have HW0 : Hid (FdWay ⟨(m : Int), (n : Int), gs, rs⟩ k j y 0 [(j : Int)]) := Lib.hid ⟨CycTo.start, (j : Int), ⟨(y : Int), qr⟩, rfl, ⟨by omega, by simpa using HQ.out.1⟩, by rw [Nat.sub_zero]; exact HX.out.1 rfl⟩
      refine wp_region_noPanic ?_
      refine wp_region_held_drew (S := (fun w' => w'.cell? ⟨b1, o1 + (k - 1), none⟩ = some (.slice (some ⟨b2, o2, none⟩) rows.length c1) ∧ w'.cell? ⟨b2, o2 + j, none⟩ = some (.slice (some ⟨b3, o3, none⟩) row.length c2) ∧ w'.cell? ⟨wi.heap.size, 0, none⟩ = some (.int .i64 (y : Int)) ∧ w'.cell? ⟨b3, o3 + y, none⟩ = some (.bool true))) (by kernel_rfl) ?ht (fun hHeld => ?bt)
      case ht => ((try dsimp only); go_keep)
      refine take_run (i := 0) (v := ?vt0) rfl (by kernel_rfl) (by kernel_rfl) (by kernel_rfl) (fun _ _ _ h => h) (by rfl) ?yt0 (by assumption) ?rt0
      case yt0 => (intro w hSw; (try dsimp only at hSw); go_simp; try with_reducible rfl)
      try simp only [Act.put, List.setIfInBounds_toArray, List.set_cons_zero, List.set_cons_succ]
      refine take_run (i := 1) (v := ?vt1) rfl (by kernel_rfl) (by kernel_rfl) (by kernel_rfl) (fun _ _ _ h => h) (by rfl) ?yt1 (by assumption) ?rt1
      case yt1 => (intro w hSw; (try dsimp only at hSw); go_simp; try with_reducible rfl)
      try simp only [Act.put, List.setIfInBounds_toArray, List.set_cons_zero, List.set_cons_succ]
      refine take_run (i := 2) (v := ?vt2) rfl (by kernel_rfl) (by kernel_rfl) (by kernel_rfl) (fun _ _ _ h => h) (by rfl) ?yt2 (by assumption) ?rt2
      case yt2 => (intro w hSw; (try dsimp only at hSw); go_simp; try with_reducible rfl)
      try simp only [Act.put, List.setIfInBounds_toArray, List.set_cons_zero, List.set_cons_succ]
      refine take_run (i := 3) (v := ?vt3) rfl (by kernel_rfl) (by kernel_rfl) (by kernel_rfl) (fun _ _ _ h => h) (by rfl) ?yt3 (by assumption) ?rt3
      case yt3 => (intro w hSw; (try dsimp only at hSw); go_simp; try with_reducible rfl)
      try simp only [Act.put, List.setIfInBounds_toArray, List.set_cons_zero, List.set_cons_succ]
      refine take_run (i := 4) (v := ?vt4) rfl (by kernel_rfl) (by kernel_rfl) (by kernel_rfl) (fun _ _ _ h => h) (by rfl) ?yt4 (by assumption) ?rt4
      case yt4 => (intro w hSw; (try dsimp only at hSw); go_simp; try with_reducible rfl)
      try simp only [Act.put, List.setIfInBounds_toArray, List.set_cons_zero, List.set_cons_succ]
      refine take_run (i := 5) (v := ?vt5) rfl (by kernel_rfl) (by kernel_rfl) (by kernel_rfl) (fun _ _ _ h => h) (by rfl) ?yt5 (by assumption) ?rt5
      case yt5 => (intro w hSw; (try dsimp only at hSw); go_simp; try with_reducible rfl)
      try simp only [Act.put, List.setIfInBounds_toArray, List.set_cons_zero, List.set_cons_succ]
      refine take_run (i := 6) (v := ?vt6) rfl (by kernel_rfl) (by kernel_rfl) (by kernel_rfl) (fun _ _ _ h => h) (by rfl) ?yt6 (by assumption) ?rt6
      case yt6 => (intro w hSw; (try dsimp only at hSw); go_simp; try with_reducible rfl)
      try simp only [Act.put, List.setIfInBounds_toArray, List.set_cons_zero, List.set_cons_succ]
      refine take_run (i := 7) (v := ?vt7) rfl (by kernel_rfl) (by kernel_rfl) (by kernel_rfl) (fun _ _ _ h => h) (by rfl) ?yt7 (by assumption) ?rt7
      case yt7 => (intro w hSw; (try dsimp only at hSw); go_simp; try with_reducible rfl)
      try simp only [Act.put, List.setIfInBounds_toArray, List.set_cons_zero, List.set_cons_succ]
      refine take_run (i := 8) (v := ?vt8) rfl (by kernel_rfl) (by kernel_rfl) (by kernel_rfl) (fun _ _ _ h => h) (by rfl) ?yt8 (by assumption) ?rt8
      case yt8 => (intro w hSw; (try dsimp only at hSw); go_simp; try with_reducible rfl)
      try simp only [Act.put, List.setIfInBounds_toArray, List.set_cons_zero, List.set_cons_succ]
      refine take_run (i := 9) (v := ?vt9) rfl (by kernel_rfl) (by kernel_rfl) (by kernel_rfl) (fun _ _ _ h => h) (by rfl) ?yt9 (by assumption) ?rt9
      case yt9 => (intro w hSw; (try dsimp only at hSw); go_simp; try with_reducible rfl)
      try simp only [Act.put, List.setIfInBounds_toArray, List.set_cons_zero, List.set_cons_succ]
      refine take_run (i := 10) (v := ?vt10) rfl (by kernel_rfl) (by kernel_rfl) (by kernel_rfl) (fun _ _ _ h => h) (by rfl) ?yt10 (by assumption) ?rt10
      case yt10 => (intro w hSw; (try dsimp only at hSw); go_simp; try with_reducible rfl)
      try simp only [Act.put, List.setIfInBounds_toArray, List.set_cons_zero, List.set_cons_succ]
      refine take_run (i := 11) (v := ?vt11) rfl (by kernel_rfl) (by kernel_rfl) (by kernel_rfl) (fun _ _ _ h => h) (by rfl) ?yt11 (by assumption) ?rt11
      case yt11 => (intro w hSw; (try dsimp only at hSw); go_simp; try with_reducible rfl)
      try simp only [Act.put, List.setIfInBounds_toArray, List.set_cons_zero, List.set_cons_succ]
      refine take_run (i := 12) (v := ?vt12) rfl (by kernel_rfl) (by kernel_rfl) (by kernel_rfl) (fun _ _ _ h => h) (by rfl) ?yt12 (by assumption) ?rt12
      case yt12 => (intro w hSw; (try dsimp only at hSw); go_simp; try with_reducible rfl)
      try simp only [Act.put, List.setIfInBounds_toArray, List.set_cons_zero, List.set_cons_succ]
      refine wpAnyH_done (by kernel_rfl) ?_ _
      refine NoPanic.normal ?_
      obtain ⟨we, hwe⟩ : ∃ we : World, we = wq.drew := ⟨_, rfl⟩
      have HWe : Hid (Below w3.heap.size w3 we ∧ Blk' we wi.heap.size 60 #[.int .i64 (y : Int), .slice Aq qr.length cq]) := Lib.hid (by rw [hwe]; exact ⟨HBq.out.drew, HQb.out.drew⟩)
      have HOl : Hid (Own (we.alloc (.cells #[.int .i64 (j : Int)] 3)) (fun _ => False) we.heap.size 3 (.slice (some ⟨we.heap.size, 0, none⟩) 1 1) [(j : Int)]) := Lib.hid (Own.lit1 _ (Nat.le_refl _) ⟨by omega, by omega⟩)
      have zie : wi.heap.size < we.heap.size := HWe.out.2.lt
      have hkm4 : IntKind.i64.wrap ((k : Int) - 2) = (k : Int) - 2 := IntWalk.i64_in _ (by omega)
      rw [← hwe]
      clear ht1 ht2 ht3 q0 hwe
      go_wp2_with fail
      go_loopw [8, 9] (fun v i wr => FdW ⟨(m : Int), (n : Int), gs, rs⟩ k j y we v i wr) (fun _ i _ => (intOf i + 2).toNat)
      case atStart => exact ⟨0, [(j : Int)], by omega, by first | rfl | (congr 1; omega) | (simp; omega), HW0.out, HOl.out, (Below.refl _ _).alloc (Nat.le_refl _) _⟩
      case round =>
       obtain ⟨wz, hwz⟩ : ∃ wz : World, wz = wr := ⟨_, rfl⟩
       subst hwz
       obtain ⟨p, l, hp, rfl, hway, hown, hb⟩ := hrel
       obtain ⟨Al, cl, rfl, hcl1, hcl2, hcl3⟩ := hown.form
       have HWy := Lib.hid hway
       have HOz := Lib.hid hown
       have HBz := Lib.hid hb
       have hll : l.length = p + 1 := hway.1.len
       have HLl := Lib.hid hll
       obtain ⟨gl, hgl, hgl1, hgl2⟩ : ∃ gl, Al = some ⟨gl, 0, none⟩ ∧ we.heap.size ≤ gl ∧ gl < wz.heap.size := by
        rcases hcl3 with h | h
        ·rw [h] at hll; simp at hll
        ·exact h
       subst hgl
       have hQz := HWe.out.2.below hb HWe.out.2.lt
       have HQz := Lib.hid hQz
       have HGz := Lib.hid ((HG3.out.below HWe.out.1 HG3.out.lt).below hb (by have := HWe.out.1.size; omega))
       have z3 : wz.cell? ⟨w.heap.size, 3, none⟩ = some (.slice (some ⟨bq, oq, none⟩) rs.length c) := HGz.out.cell 3
       have zGz : w.heap.size < wz.heap.size := HGz.out.lt
       clear hway hown hb hQz hcl3
       by_cases hpk : p + 2 ≤ k
       ·obtain ⟨last, hlast⟩ := get_some (show p < l.length by omega)
        obtain ⟨bl, ol, hbl0, hSl, hbl, hli, hlc⟩ := (HOz.out.vl.els.2.2.2).int hlast
        injection hbl0 with hbl0
        injection hbl0 with e1 e2 _
        subst e1; subst e2
        obtain ⟨lq, hlq1, hlq2⟩ : ∃ lq, RuleAt ⟨(m : Int), (n : Int), gs, rs⟩ last lq ∧ TabR ⟨(m : Int), (n : Int), gs, rs⟩ (k - 1 - p) lq y := by
         obtain ⟨x', qx, h2, h3, h4⟩ := HWy.out.2
         rw [hlast] at h2
         injection h2 with h2
         subst h2
         exact ⟨qx, h3, h4⟩
        obtain ⟨la, rfl⟩ : ∃ la : Nat, last = (la : Int) := ⟨last.toNat, by have := hlq1.1; omega⟩
        have hlar : rs[la]? = some lq := by simpa using hlq1.2
        have hla : la < rs.length := (List.getElem?_eq_some_iff.1 hlar).1
        obtain ⟨z0, hz0, hz1⟩ := HWy.out.some_next hpk hlast
        have HSome : Hid (z0 < rs.length ∧ NextOk ⟨(m : Int), (n : Int), gs, rs⟩ (la : Int) (z0 : Int) (k - 2 - p) y) := Lib.hid ⟨hz0, hz1⟩
        obtain ⟨mo, hmo⟩ : ∃ mo, mo = k - 2 - p := ⟨_, rfl⟩
        have hmo1 : (k : Int) - 2 - (p : Int) = (mo : Int) := by omega
        have hmo2 : (0 : Int) ≤ (mo : Int) := by omega
        obtain ⟨prow, hprow⟩ := get_some (show la < out.length by rw [HOl2.out]; exact hla)
        have HLa := Lib.hid (And.intro hlast (And.intro hlar (And.intro hprow (HPL.out.2 la lq prow hlar hprow))))
        obtain ⟨rows2, hrows2⟩ := get_some (show mo < T.length by rw [HTl.out]; omega)
        have HR2 := Lib.hid (And.intro hrows2 (HT.out mo rows2 hrows2))
        rw [hmo1]
        rw [← hmo] at HSome
        have hlen1 : IntKind.i64.wrap ((l.length : Int) - 1) = (p : Int) := by rw [IntWalk.i64_in _ (by omega)]; omega
        have hp0 : (0 : Int) ≤ (p : Int) := by omega
        have hpl2 : (p : Int) < (l.length : Int) := by omega
        have hla0 : (0 : Int) ≤ (la : Int) := by omega
        rw [Nat.zero_add] at hlc
        have HMo := Lib.hid hmo
        have hmo9 : (mo : Int) ≤ 100 := by omega
        clear hlast hlq1 hlq2 hlar hz0 hz1 hprow hrows2 hll hli hmo hmo1
        go_wp2_with fail
        clear z3 hlc
        go_loopw [8, 66] (fun v i wr => v = .slice (some ⟨gl, 0, none⟩) l.length cl ∧ FdK ⟨(m : Int), (n : Int), gs, rs⟩ (la : Int) mo y wz i wr) (fun _ i _ => rs.length - (intOf i).toNat)
        case atStart => exact ⟨rfl, 0, Nat.zero_le _, rfl, (fun z h1 h2 => by omega), Below.refl _ _⟩
        case round =>
         obtain ⟨wk, hwk⟩ : ∃ wk : World, wk = wr := ⟨_, rfl⟩
         subst hwk
         obtain ⟨rfl, kk, hkk, rfl, hnn, hb⟩ := hrel
         dsimp only at hkk
         have HNN := Lib.hid hnn
         have HBk := Lib.hid hb
         have HBk3 := Lib.hid (bthen (bthen HWe.out.1 HBz.out HWe.out.1.size) hb (by have := HWe.out.1.size; have := HBz.out.size; omega))
         clear hnn hb
         by_cases hkl : kk < rs.length
         ·obtain ⟨q2, hq2⟩ := get_some hkl
          have hbw := bthen HB3.out HBk3.out HB3.out.size
          obtain ⟨bq2, oq2, Aq2, cq2, hbe, hSbq, hbs2, hqi2, hrc2, hcr2, hEr2, hd0, hd1⟩ := (HA.out.belowB hbw HS.out).rule hq2
          injection hbe with hbe
          injection hbe with e1 e2 _
          subst e1; subst e2
          have hql2 := HPI.out.left q2 (List.mem_of_getElem? hq2)
          obtain ⟨row2, hrow2⟩ := get_some (show kk < rows2.length by rw [HR2.out.2.1]; exact hkl)
          have hrw2 := HR2.out.2.2 kk q2 row2 hq2 hrow2
          obtain ⟨x2, hx2⟩ := get_some (show y < row2.length by rw [hrw2.1]; exact hyn)
          have HQ2 := Lib.hid hq2
          have HNx : Hid (NextOk ⟨(m : Int), (n : Int), gs, rs⟩ (la : Int) (kk : Int) mo y ↔ q2.left ∈ prow ∧ x2 = true) := Lib.hid (by
           have hx3 : x2 = true ↔ TabR ⟨(m : Int), (n : Int), gs, rs⟩ mo q2 y := by rw [← hrw2.2 y hyn, hx2]; simp
           rw [hx3, HLa.out.2.2.2.mem]
           constructor
           ·rintro ⟨qa, qb, h1, h2, h3, h4⟩
            have e1 : qa = lq := by have := h1.2; simp at this; rw [HLa.out.2.1] at this; injection this with this; exact this.symm
            have e2 : qb = q2 := by have := h2.2; simp at this; rw [hq2] at this; injection this with this; exact this.symm
            subst e1; subst e2
            exact ⟨h3, h4⟩
           ·rintro ⟨h3, h4⟩
            exact ⟨lq, q2, ⟨by omega, by simpa using HLa.out.2.1⟩, ⟨by omega, by simpa using hq2⟩, h3, h4⟩)
          obtain ⟨ql2, qr2⟩ := q2
          dsimp only at hqi2 hrc2 hcr2 hEr2 hd0 hd1 hql2 HNx
          have hkk0 : (0 : Int) ≤ (kk : Int) := by omega
          have hkk9 : (kk : Int) < (rs.length : Int) := by omega
          obtain ⟨wx, hwx⟩ : ∃ wx : World, wx = wk.alloc (.cells #[.int .i64 ql2, .slice Aq2 qr2.length cq2] 60) := ⟨_, rfl⟩
          have HWx := Lib.hid hwx
          have hbx : Below wk.heap.size wk wx := by rw [hwx]; exact (Below.refl _ _).alloc (Nat.le_refl _) _
          have hbkx := bthen HBk.out hbx HBk.out.size
          have HBx2 := Lib.hid hbkx
          have hb3x := bthen HBk3.out hbx HBk3.out.size
          have hXb : Blk' wx wk.heap.size 60 #[.int .i64 ql2, .slice Aq2 qr2.length cq2] := by rw [hwx]; exact Blk'.new _ _ _
          have s0 : wx.cell? ⟨wk.heap.size, 0, none⟩ = some (.int .i64 ql2) := hXb.cell 0
          have zx : wk.heap.size < wx.heap.size := hXb.lt
          have hFx := HF3.out.below hb3x HF3.out.lt
          have s1 : wx.cell? ⟨w2.heap.size, 4, none⟩ = some (.slice Ap out.length cp) := hFx.cell 4
          have zFx : w2.heap.size < wx.heap.size := hFx.lt
          have hQx := HQz.out.below hbkx HQz.out.lt
          have s2 : wx.cell? ⟨wi.heap.size, 0, none⟩ = some (.int .i64 (y : Int)) := hQx.cell 0
          have zQx : wi.heap.size < wx.heap.size := hQx.lt
          have hPx : Els wx (fun b => (False ∨ w0.heap.size ≤ b) ∧ b < w2.heap.size) out Ap := (HPE3.out.keep (fun _ _ _ => rfl) (fun b hb => by simpa using hb)).belowB hb3x (fun b hb => HPEs.out b hb)
          obtain ⟨bp, op, Ar, cr, hbpe, hSbp, hbp, hs3, hcr1, hcr2', hErow⟩ := hPx.rowS HLa.out.2.2.1
          subst hbpe
          have hTx : Els wx (fun b => (False ∨ (w2.heap.size + 1) ≤ b) ∧ b < w3.heap.size) T (some ⟨b1, o1, none⟩) := (HTE.out.keep (fun _ _ _ => rfl) (fun b hb => by simpa using hb)).belowB hb3x (fun b hb => hb.2)
          obtain ⟨b5, o5, A5, c5, hbe5, hS5, hb55, ht5, hc51, hc52, hE5⟩ := hTx.rowS HR2.out.1
          injection hbe5 with hbe5
          injection hbe5 with e1 e2 _
          subst e1; subst e2
          obtain ⟨b6, o6, A6, c6, rfl, hS6, hb66, ht6, hc61, hc62, hE6⟩ := hE5.rowS hrow2
          obtain ⟨b7, o7, rfl, hS7, hb77, ht7⟩ := hE6.bool hx2
          have HErow := Lib.hid hErow
          have hla9o : (la : Int) < (out.length : Int) := by have := HOl2.out; omega
          have hmo9T : (mo : Int) < (T.length : Int) := by have := (List.getElem?_eq_some_iff.1 HR2.out.1).1; omega
          have hkk9r : (kk : Int) < (rows2.length : Int) := by have := HR2.out.2.1; dsimp only at this; omega
          have hy9r2 : (y : Int) < (row2.length : Int) := by have := hrw2.1; omega
          have hprl : prow.length ≤ 9223372036854775807 := by omega
          clear hq2 hrow2 hrw2 hx2 hwx hbx hbkx hb3x hXb hFx hQx hPx hErow hTx hE5 hE6 hEr2 hqi2 hbw hql2
          go_upto_region 18 with (fail)
          rw [← HWx.out]
          clear hd0 hd1
          by_cases hin : ql2 ∈ prow
          ·have d0 : decide (ql2 ∈ prow) = true := decide_eq_true hin
           have HIn := Lib.hid hin
           clear hin
           cases x2
           ·have HNk : Hid (∀ z : Int, 0 ≤ z → z < ((kk + 1 : Nat) : Int) → ¬ NextOk ⟨(m : Int), (n : Int), gs, rs⟩ (la : Int) z mo y) := Lib.hid (fun z h1 h2 h3 => by
             by_cases e : z = (kk : Int)
             ·subst e
              have := (HNx.out.1 h3).2
              cases this
             ·exact HNN.out z h1 (by omega) h3)
            refine wp_region_noPanic ?_
            refine wp_region_held_drew (S := (fun w' => w'.cell? ⟨w2.heap.size, 4, none⟩ = some (.slice (some ⟨bp, op, none⟩) out.length cp) ∧ w'.cell? ⟨bp, op + la, none⟩ = some (.slice Ar prow.length cr) ∧ w'.cell? ⟨wk.heap.size, 0, none⟩ = some (.int .i64 ql2) ∧ w'.cell? ⟨b1, o1 + mo, none⟩ = some (.slice (some ⟨b6, o6, none⟩) rows2.length c5) ∧ w'.cell? ⟨b6, o6 + kk, none⟩ = some (.slice (some ⟨b7, o7, none⟩) row2.length c6) ∧ w'.cell? ⟨wi.heap.size, 0, none⟩ = some (.int .i64 (y : Int)) ∧ w'.cell? ⟨b7, o7 + y, none⟩ = some (.bool false))) (by kernel_rfl) ?hu (fun hHeld => ?bu)
            case hu => ((try dsimp only); go_keep)
            refine take_run (i := 0) (v := ?vu0) rfl (by kernel_rfl) (by kernel_rfl) (by kernel_rfl) (fun _ _ _ h => h) (by rfl) ?yu0 (by assumption) ?ru0
            case yu0 => (intro w hSw; (try dsimp only at hSw); go_simp; try with_reducible rfl)
            try simp only [Act.put, List.setIfInBounds_toArray, List.set_cons_zero, List.set_cons_succ]
            refine take_run (i := 1) (v := ?vu1) rfl (by kernel_rfl) (by kernel_rfl) (by kernel_rfl) (fun _ _ _ h => h) (by rfl) ?yu1 (by assumption) ?ru1
            case yu1 => (intro w hSw; (try dsimp only at hSw); go_simp; try with_reducible rfl)
            try simp only [Act.put, List.setIfInBounds_toArray, List.set_cons_zero, List.set_cons_succ]
            refine take_run (i := 2) (v := ?vu2) rfl (by kernel_rfl) (by kernel_rfl) (by kernel_rfl) (fun _ _ _ h => h) (by rfl) ?yu2 (by assumption) ?ru2
            case yu2 => (intro w hSw; (try dsimp only at hSw); go_simp; try with_reducible rfl)
            try simp only [Act.put, List.setIfInBounds_toArray, List.set_cons_zero, List.set_cons_succ]
            refine take_run (i := 3) (v := ?vu3) rfl (by kernel_rfl) (by kernel_rfl) (by kernel_rfl) (fun _ _ _ h => h) (by rfl) ?yu3 (by assumption) ?ru3
            case yu3 => (intro w hSw; (try dsimp only at hSw); go_simp; try with_reducible rfl)
            try simp only [Act.put, List.setIfInBounds_toArray, List.set_cons_zero, List.set_cons_succ]
            refine take_run (i := 4) (v := ?vu4) rfl (by kernel_rfl) (by kernel_rfl) (by kernel_rfl) (fun _ _ _ h => h) (by rfl) ?yu4 (by assumption) ?ru4
            case yu4 => (intro w hSw; (try dsimp only at hSw); go_simp; try with_reducible rfl)
            try simp only [Act.put, List.setIfInBounds_toArray, List.set_cons_zero, List.set_cons_succ]
            refine take_run (i := 5) (v := ?vu5) rfl (by kernel_rfl) (by kernel_rfl) (by kernel_rfl) (fun _ _ _ h => h) (by rfl) ?yu5 (by assumption) ?ru5
            case yu5 => (intro w hSw; (try dsimp only at hSw); go_simp; try with_reducible rfl)
            try simp only [Act.put, List.setIfInBounds_toArray, List.set_cons_zero, List.set_cons_succ]
            refine take_run (i := 6) (v := ?vu6) rfl (by kernel_rfl) (by kernel_rfl) (by kernel_rfl) (fun _ _ _ h => h) (by rfl) ?yu6 (by assumption) ?ru6
            case yu6 => (intro w hSw; (try dsimp only at hSw); go_simp; try with_reducible rfl)
            try simp only [Act.put, List.setIfInBounds_toArray, List.set_cons_zero, List.set_cons_succ]
            refine take_run (i := 7) (v := ?vu7) rfl (by kernel_rfl) (by kernel_rfl) (by kernel_rfl) (fun _ _ _ h => h) (by rfl) ?yu7 (by assumption) ?ru7
            case yu7 => (intro w hSw; (try dsimp only at hSw); go_simp; try with_reducible rfl)
            try simp only [Act.put, List.setIfInBounds_toArray, List.set_cons_zero, List.set_cons_succ]
            refine take_run (i := 8) (v := ?vu8) rfl (by kernel_rfl) (by kernel_rfl) (by kernel_rfl) (fun _ _ _ h => h) (by rfl) ?yu8 (by assumption) ?ru8
            case yu8 => (intro w hSw; (try dsimp only at hSw); go_simp; try with_reducible rfl)
            try simp only [Act.put, List.setIfInBounds_toArray, List.set_cons_zero, List.set_cons_succ]
            refine take_call (i := 9) rfl (by kernel_rfl) (by rfl) (fun Kq hK => ?_)
            go_simp
            go_at_call 89
            refine (containsInt_any Ar prow.length cr prow ql2 _ wx.drew rfl hprl (show Els wx.drew _ prow Ar from HErow.out)).mono ?_
            rintro e wv ⟨rfl, rfl⟩
            rw [d0]
            refine hK.out _ _ ?hu9 (fun hHeld => ?ru9)
            case hu9 => ((try dsimp only); go_keep)
            clear hK Kq
            try simp only [Act.put, List.setIfInBounds_toArray, List.set_cons_zero, List.set_cons_succ]
            refine take_run (i := 10) (v := ?vu10) rfl (by kernel_rfl) (by kernel_rfl) (by kernel_rfl) (fun _ _ _ h => h) (by rfl) ?yu10 (by assumption) ?ru10
            case yu10 => (intro w hSw; (try dsimp only at hSw); go_simp; try with_reducible rfl)
            try simp only [Act.put, List.setIfInBounds_toArray, List.set_cons_zero, List.set_cons_succ]
            refine take_run (i := 11) (v := ?vu11) rfl (by kernel_rfl) (by kernel_rfl) (by kernel_rfl) (fun _ _ _ h => h) (by rfl) ?yu11 (by assumption) ?ru11
            case yu11 => (intro w hSw; (try dsimp only at hSw); go_simp; try with_reducible rfl)
            try simp only [Act.put, List.setIfInBounds_toArray, List.set_cons_zero, List.set_cons_succ]
            refine take_run (i := 12) (v := ?vu12) rfl (by kernel_rfl) (by kernel_rfl) (by kernel_rfl) (fun _ _ _ h => h) (by rfl) ?yu12 (by assumption) ?ru12
            case yu12 => (intro w hSw; (try dsimp only at hSw); go_simp; try with_reducible rfl)
            try simp only [Act.put, List.setIfInBounds_toArray, List.set_cons_zero, List.set_cons_succ]
            refine take_run (i := 13) (v := ?vu13) rfl (by kernel_rfl) (by kernel_rfl) (by kernel_rfl) (fun _ _ _ h => h) (by rfl) ?yu13 (by assumption) ?ru13
            case yu13 => (intro w hSw; (try dsimp only at hSw); go_simp; try with_reducible rfl)
            try simp only [Act.put, List.setIfInBounds_toArray, List.set_cons_zero, List.set_cons_succ]
            refine take_run (i := 14) (v := ?vu14) rfl (by kernel_rfl) (by kernel_rfl) (by kernel_rfl) (fun _ _ _ h => h) (by rfl) ?yu14 (by assumption) ?ru14
            case yu14 => (intro w hSw; (try dsimp only at hSw); go_simp; try with_reducible rfl)
            try simp only [Act.put, List.setIfInBounds_toArray, List.set_cons_zero, List.set_cons_succ]
            refine take_run (i := 15) (v := ?vu15) rfl (by kernel_rfl) (by kernel_rfl) (by kernel_rfl) (fun _ _ _ h => h) (by rfl) ?yu15 (by assumption) ?ru15
            case yu15 => (intro w hSw; (try dsimp only at hSw); go_simp; try with_reducible rfl)
            try simp only [Act.put, List.setIfInBounds_toArray, List.set_cons_zero, List.set_cons_succ]
            refine take_run (i := 16) (v := ?vu16) rfl (by kernel_rfl) (by kernel_rfl) (by kernel_rfl) (fun _ _ _ h => h) (by rfl) ?yu16 (by assumption) ?ru16
            case yu16 => (intro w hSw; (try dsimp only at hSw); go_simp; try with_reducible rfl)
            try simp only [Act.put, List.setIfInBounds_toArray, List.set_cons_zero, List.set_cons_succ]
            refine take_run (i := 17) (v := ?vu17) rfl (by kernel_rfl) (by kernel_rfl) (by kernel_rfl) (fun _ _ _ h => h) (by rfl) ?yu17 (by assumption) ?ru17
            case yu17 => (intro w hSw; (try dsimp only at hSw); go_simp; try with_reducible rfl)
            try simp only [Act.put, List.setIfInBounds_toArray, List.set_cons_zero, List.set_cons_succ]
            refine take_run (i := 18) (v := ?vu18) rfl (by kernel_rfl) (by kernel_rfl) (by kernel_rfl) (fun _ _ _ h => h) (by rfl) ?yu18 (by assumption) ?ru18
            case yu18 => (intro w hSw; (try dsimp only at hSw); go_simp; try with_reducible rfl)
            try simp only [Act.put, List.setIfInBounds_toArray, List.set_cons_zero, List.set_cons_succ]
            refine take_run (i := 19) (v := ?vu19) rfl (by kernel_rfl) (by kernel_rfl) (by kernel_rfl) (fun _ _ _ h => h) (by rfl) ?yu19 (by assumption) ?ru19
            case yu19 => (intro w hSw; (try dsimp only at hSw); go_simp; try with_reducible rfl)
            try simp only [Act.put, List.setIfInBounds_toArray, List.set_cons_zero, List.set_cons_succ]
            refine take_run (i := 20) (v := ?vu20) rfl (by kernel_rfl) (by kernel_rfl) (by kernel_rfl) (fun _ _ _ h => h) (by rfl) ?yu20 (by assumption) ?ru20
            case yu20 => (intro w hSw; (try dsimp only at hSw); go_simp; try with_reducible rfl)
            try simp only [Act.put, List.setIfInBounds_toArray, List.set_cons_zero, List.set_cons_succ]
            refine take_run (i := 21) (v := ?vu21) rfl (by kernel_rfl) (by kernel_rfl) (by kernel_rfl) (fun _ _ _ h => h) (by rfl) ?yu21 (by assumption) ?ru21
            case yu21 => (intro w hSw; (try dsimp only at hSw); go_simp; try with_reducible rfl)
            try simp only [Act.put, List.setIfInBounds_toArray, List.set_cons_zero, List.set_cons_succ]
            refine take_run (i := 22) (v := ?vu22) rfl (by kernel_rfl) (by kernel_rfl) (by kernel_rfl) (fun _ _ _ h => h) (by rfl) ?yu22 (by assumption) ?ru22
            case yu22 => (intro w hSw; (try dsimp only at hSw); go_simp; try with_reducible rfl)
            try simp only [Act.put, List.setIfInBounds_toArray, List.set_cons_zero, List.set_cons_succ]
            refine wpAnyH_done (by kernel_rfl) ?_ _
            refine NoPanic.normal ?_
            go_wp2
            go_roundw
            case rel => exact ⟨rfl, kk + 1, hkl, by go_num, HNk.out, HBx2.out.drew⟩
            case measure => simp [intOf]; omega
           ·have HNy := Lib.hid (HNx.out.2 ⟨HIn.out, rfl⟩)
            have hcap1 : (l.length + 1) * 8 ≤ 140737488355328 := by have := HLl.out; omega
            have hcap2 : l.length + 1 ≤ 9223372036854775807 := by have := HLl.out; omega
            have HOx := Lib.hid ((HOz.out.below HBx2.out (Nat.le_refl _)).drew)
            have HBzx : Hid (Below we.heap.size we wx.drew) := Lib.hid (bthen HBz.out HBx2.out HBz.out.size).drew
            have HWn : Hid (FdWay ⟨(m : Int), (n : Int), gs, rs⟩ k j y (p + 1) (l ++ [(kk : Int)])) := Lib.hid (by
             have hmo := HMo.out
             refine ⟨HWy.out.1.snoc HLa.out.1 (by rw [← hmo]; exact HNy.out) (by rw [← hmo]; exact HNN.out), (kk : Int), ⟨ql2, qr2⟩, ?_, ⟨by omega, by simpa using HQ2.out⟩, ?_⟩
             ·rw [List.getElem?_append_right (by have := HLl.out; omega), HLl.out, Nat.sub_self]; rfl
             ·obtain ⟨qa, qb, h1, h2, h3, h4⟩ := HNy.out
              have e2 : qb = ⟨ql2, qr2⟩ := by have := h2.2; simp at this; rw [HQ2.out] at this; injection this with this; exact this.symm
              subst e2
              rw [show k - 1 - (p + 1) = mo by omega]
              exact h4)
            refine wp_region_noPanic ?_
            refine wp_region_held_drew (S := (fun w' => w'.cell? ⟨w2.heap.size, 4, none⟩ = some (.slice (some ⟨bp, op, none⟩) out.length cp) ∧ w'.cell? ⟨bp, op + la, none⟩ = some (.slice Ar prow.length cr) ∧ w'.cell? ⟨wk.heap.size, 0, none⟩ = some (.int .i64 ql2) ∧ w'.cell? ⟨b1, o1 + mo, none⟩ = some (.slice (some ⟨b6, o6, none⟩) rows2.length c5) ∧ w'.cell? ⟨b6, o6 + kk, none⟩ = some (.slice (some ⟨b7, o7, none⟩) row2.length c6) ∧ w'.cell? ⟨wi.heap.size, 0, none⟩ = some (.int .i64 (y : Int)) ∧ w'.cell? ⟨b7, o7 + y, none⟩ = some (.bool true))) (by kernel_rfl) ?hv (fun hHeld => ?bv)
            case hv => ((try dsimp only); go_keep)
            refine take_run (i := 0) (v := ?vv0) rfl (by kernel_rfl) (by kernel_rfl) (by kernel_rfl) (fun _ _ _ h => h) (by rfl) ?yv0 (by assumption) ?rv0
            case yv0 => (intro w hSw; (try dsimp only at hSw); go_simp; try with_reducible rfl)
            try simp only [Act.put, List.setIfInBounds_toArray, List.set_cons_zero, List.set_cons_succ]
            refine take_run (i := 1) (v := ?vv1) rfl (by kernel_rfl) (by kernel_rfl) (by kernel_rfl) (fun _ _ _ h => h) (by rfl) ?yv1 (by assumption) ?rv1
            case yv1 => (intro w hSw; (try dsimp only at hSw); go_simp; try with_reducible rfl)
            try simp only [Act.put, List.setIfInBounds_toArray, List.set_cons_zero, List.set_cons_succ]
            refine take_run (i := 2) (v := ?vv2) rfl (by kernel_rfl) (by kernel_rfl) (by kernel_rfl) (fun _ _ _ h => h) (by rfl) ?yv2 (by assumption) ?rv2
            case yv2 => (intro w hSw; (try dsimp only at hSw); go_simp; try with_reducible rfl)
            try simp only [Act.put, List.setIfInBounds_toArray, List.set_cons_zero, List.set_cons_succ]
            refine take_run (i := 3) (v := ?vv3) rfl (by kernel_rfl) (by kernel_rfl) (by kernel_rfl) (fun _ _ _ h => h) (by rfl) ?yv3 (by assumption) ?rv3
            case yv3 => (intro w hSw; (try dsimp only at hSw); go_simp; try with_reducible rfl)
            try simp only [Act.put, List.setIfInBounds_toArray, List.set_cons_zero, List.set_cons_succ]
            refine take_run (i := 4) (v := ?vv4) rfl (by kernel_rfl) (by kernel_rfl) (by kernel_rfl) (fun _ _ _ h => h) (by rfl) ?yv4 (by assumption) ?rv4
            case yv4 => (intro w hSw; (try dsimp only at hSw); go_simp; try with_reducible rfl)
            try simp only [Act.put, List.setIfInBounds_toArray, List.set_cons_zero, List.set_cons_succ]
            refine take_run (i := 5) (v := ?vv5) rfl (by kernel_rfl) (by kernel_rfl) (by kernel_rfl) (fun _ _ _ h => h) (by rfl) ?yv5 (by assumption) ?rv5
            case yv5 => (intro w hSw; (try dsimp only at hSw); go_simp; try with_reducible rfl)
            try simp only [Act.put, List.setIfInBounds_toArray, List.set_cons_zero, List.set_cons_succ]
            refine take_run (i := 6) (v := ?vv6) rfl (by kernel_rfl) (by kernel_rfl) (by kernel_rfl) (fun _ _ _ h => h) (by rfl) ?yv6 (by assumption) ?rv6
            case yv6 => (intro w hSw; (try dsimp only at hSw); go_simp; try with_reducible rfl)
            try simp only [Act.put, List.setIfInBounds_toArray, List.set_cons_zero, List.set_cons_succ]
            refine take_run (i := 7) (v := ?vv7) rfl (by kernel_rfl) (by kernel_rfl) (by kernel_rfl) (fun _ _ _ h => h) (by rfl) ?yv7 (by assumption) ?rv7
            case yv7 => (intro w hSw; (try dsimp only at hSw); go_simp; try with_reducible rfl)
            try simp only [Act.put, List.setIfInBounds_toArray, List.set_cons_zero, List.set_cons_succ]
            refine take_run (i := 8) (v := ?vv8) rfl (by kernel_rfl) (by kernel_rfl) (by kernel_rfl) (fun _ _ _ h => h) (by rfl) ?yv8 (by assumption) ?rv8
            case yv8 => (intro w hSw; (try dsimp only at hSw); go_simp; try with_reducible rfl)
            try simp only [Act.put, List.setIfInBounds_toArray, List.set_cons_zero, List.set_cons_succ]
            refine take_call (i := 9) rfl (by kernel_rfl) (by rfl) (fun Kq hK => ?_)
            go_simp
            go_at_call 89
            refine (containsInt_any Ar prow.length cr prow ql2 _ wx.drew rfl hprl (show Els wx.drew _ prow Ar from HErow.out)).mono ?_
            rintro e wv ⟨rfl, rfl⟩
            rw [d0]
            refine hK.out _ _ ?hv9 (fun hHeld => ?rv9)
            case hv9 => ((try dsimp only); go_keep)
            clear hK Kq
            try simp only [Act.put, List.setIfInBounds_toArray, List.set_cons_zero, List.set_cons_succ]
            refine take_run (i := 10) (v := ?vv10) rfl (by kernel_rfl) (by kernel_rfl) (by kernel_rfl) (fun _ _ _ h => h) (by rfl) ?yv10 (by assumption) ?rv10
            case yv10 => (intro w hSw; (try dsimp only at hSw); go_simp; try with_reducible rfl)
            try simp only [Act.put, List.setIfInBounds_toArray, List.set_cons_zero, List.set_cons_succ]
            refine take_run (i := 11) (v := ?vv11) rfl (by kernel_rfl) (by kernel_rfl) (by kernel_rfl) (fun _ _ _ h => h) (by rfl) ?yv11 (by assumption) ?rv11
            case yv11 => (intro w hSw; (try dsimp only at hSw); go_simp; try with_reducible rfl)
            try simp only [Act.put, List.setIfInBounds_toArray, List.set_cons_zero, List.set_cons_succ]
            refine take_run (i := 12) (v := ?vv12) rfl (by kernel_rfl) (by kernel_rfl) (by kernel_rfl) (fun _ _ _ h => h) (by rfl) ?yv12 (by assumption) ?rv12
            case yv12 => (intro w hSw; (try dsimp only at hSw); go_simp; try with_reducible rfl)
            try simp only [Act.put, List.setIfInBounds_toArray, List.set_cons_zero, List.set_cons_succ]
            refine take_run (i := 13) (v := ?vv13) rfl (by kernel_rfl) (by kernel_rfl) (by kernel_rfl) (fun _ _ _ h => h) (by rfl) ?yv13 (by assumption) ?rv13
            case yv13 => (intro w hSw; (try dsimp only at hSw); go_simp; try with_reducible rfl)
            try simp only [Act.put, List.setIfInBounds_toArray, List.set_cons_zero, List.set_cons_succ]
            refine take_run (i := 14) (v := ?vv14) rfl (by kernel_rfl) (by kernel_rfl) (by kernel_rfl) (fun _ _ _ h => h) (by rfl) ?yv14 (by assumption) ?rv14
            case yv14 => (intro w hSw; (try dsimp only at hSw); go_simp; try with_reducible rfl)
            try simp only [Act.put, List.setIfInBounds_toArray, List.set_cons_zero, List.set_cons_succ]
            refine take_run (i := 15) (v := ?vv15) rfl (by kernel_rfl) (by kernel_rfl) (by kernel_rfl) (fun _ _ _ h => h) (by rfl) ?yv15 (by assumption) ?rv15
            case yv15 => (intro w hSw; (try dsimp only at hSw); go_simp; try with_reducible rfl)
            try simp only [Act.put, List.setIfInBounds_toArray, List.set_cons_zero, List.set_cons_succ]
            refine take_run (i := 16) (v := ?vv16) rfl (by kernel_rfl) (by kernel_rfl) (by kernel_rfl) (fun _ _ _ h => h) (by rfl) ?yv16 (by assumption) ?rv16
            case yv16 => (intro w hSw; (try dsimp only at hSw); go_simp; try with_reducible rfl)
            try simp only [Act.put, List.setIfInBounds_toArray, List.set_cons_zero, List.set_cons_succ]
            refine take_run (i := 17) (v := ?vv17) rfl (by kernel_rfl) (by kernel_rfl) (by kernel_rfl) (fun _ _ _ h => h) (by rfl) ?yv17 (by assumption) ?rv17
            case yv17 => (intro w hSw; (try dsimp only at hSw); go_simp; try with_reducible rfl)
            try simp only [Act.put, List.setIfInBounds_toArray, List.set_cons_zero, List.set_cons_succ]
            refine take_run (i := 18) (v := ?vv18) rfl (by kernel_rfl) (by kernel_rfl) (by kernel_rfl) (fun _ _ _ h => h) (by rfl) ?yv18 (by assumption) ?rv18
            case yv18 => (intro w hSw; (try dsimp only at hSw); go_simp; try with_reducible rfl)
            try simp only [Act.put, List.setIfInBounds_toArray, List.set_cons_zero, List.set_cons_succ]
            refine take_run (i := 19) (v := ?vv19) rfl (by kernel_rfl) (by kernel_rfl) (by kernel_rfl) (fun _ _ _ h => h) (by rfl) ?yv19 (by assumption) ?rv19
            case yv19 => (intro w hSw; (try dsimp only at hSw); go_simp; try with_reducible rfl)
            try simp only [Act.put, List.setIfInBounds_toArray, List.set_cons_zero, List.set_cons_succ]
            refine take_run (i := 20) (v := ?vv20) rfl (by kernel_rfl) (by kernel_rfl) (by kernel_rfl) (fun _ _ _ h => h) (by rfl) ?yv20 (by assumption) ?rv20
            case yv20 => (intro w hSw; (try dsimp only at hSw); go_simp; try with_reducible rfl)
            try simp only [Act.put, List.setIfInBounds_toArray, List.set_cons_zero, List.set_cons_succ]
            refine take_run (i := 21) (v := ?vv21) rfl (by kernel_rfl) (by kernel_rfl) (by kernel_rfl) (fun _ _ _ h => h) (by rfl) ?yv21 (by assumption) ?rv21
            case yv21 => (intro w hSw; (try dsimp only at hSw); go_simp; try with_reducible rfl)
            try simp only [Act.put, List.setIfInBounds_toArray, List.set_cons_zero, List.set_cons_succ]
            refine take_run (i := 22) (v := ?vv22) rfl (by kernel_rfl) (by kernel_rfl) (by kernel_rfl) (fun _ _ _ h => h) (by rfl) ?yv22 (by assumption) ?rv22
            case yv22 => (intro w hSw; (try dsimp only at hSw); go_simp; try with_reducible rfl)
            try simp only [Act.put, List.setIfInBounds_toArray, List.set_cons_zero, List.set_cons_succ]
            refine wpAnyH_done (by kernel_rfl) ?_ _
            refine NoPanic.normal ?_
            have hmm : IntKind.i64.wrap ((mo : Int) - 1) = (k : Int) - 2 - ((p + 1 : Nat) : Int) := by rw [IntWalk.i64_in _ (by omega)]; have := HMo.out; push_cast; omega
            go_wp2_with (at_builtin; refine wpList_own1 _ rfl _ _ elemInt rfl rfl (HOx.out.alloc _) (kk : Int) [.int .i64 (kk : Int)] rfl (At.new _ _ _) ⟨rfl, by unfold I64; omega⟩ hcap1 hcap2 (Nat.le_trans HBzx.out.size ((Below.refl _ _).alloc (Nat.le_refl _) _).size) ?_; intro v' w4 hown4 hg4 hat4; have H4 := Lib.hid (And.intro hown4 hg4); clear hown4 hg4 hat4)
            go_roundw
            case rel => exact ⟨p + 1, l ++ [(kk : Int)], by omega, by first | rfl | (push_cast; rfl), HWn.out, H4.out.1, bgrown (HBzx.out.alloc HBzx.out.size _) H4.out.2 (HOx.out.alloc _) (Nat.le_refl _) (Nat.le_trans HBzx.out.size ((Below.refl _ _).alloc (Nat.le_refl _) _).size)⟩
            case measure => have h9 := HMo.out; simp [intOf]; omega
          ·have d0 : decide (ql2 ∈ prow) = false := decide_eq_false hin
           have HNk : Hid (∀ z : Int, 0 ≤ z → z < ((kk + 1 : Nat) : Int) → ¬ NextOk ⟨(m : Int), (n : Int), gs, rs⟩ (la : Int) z mo y) := Lib.hid (fun z h1 h2 h3 => by
            by_cases e : z = (kk : Int)
            ·subst e
             exact hin (HNx.out.1 h3).1
            ·exact HNN.out z h1 (by omega) h3)
           clear hin
           refine wp_region_noPanic ?_
           refine wp_region_held_drew (S := (fun w' => w'.cell? ⟨w2.heap.size, 4, none⟩ = some (.slice (some ⟨bp, op, none⟩) out.length cp) ∧ w'.cell? ⟨bp, op + la, none⟩ = some (.slice Ar prow.length cr) ∧ w'.cell? ⟨wk.heap.size, 0, none⟩ = some (.int .i64 ql2) ∧ w'.cell? ⟨b1, o1 + mo, none⟩ = some (.slice (some ⟨b6, o6, none⟩) rows2.length c5) ∧ w'.cell? ⟨b6, o6 + kk, none⟩ = some (.slice (some ⟨b7, o7, none⟩) row2.length c6) ∧ w'.cell? ⟨wi.heap.size, 0, none⟩ = some (.int .i64 (y : Int)) ∧ w'.cell? ⟨b7, o7 + y, none⟩ = some (.bool x2))) (by kernel_rfl) ?hx (fun hHeld => ?bx)
           case hx => ((try dsimp only); go_keep)
           refine take_run (i := 0) (v := ?vx0) rfl (by kernel_rfl) (by kernel_rfl) (by kernel_rfl) (fun _ _ _ h => h) (by rfl) ?yx0 (by assumption) ?rx0
           case yx0 => (intro w hSw; (try dsimp only at hSw); go_simp; try with_reducible rfl)
           try simp only [Act.put, List.setIfInBounds_toArray, List.set_cons_zero, List.set_cons_succ]
           refine take_run (i := 1) (v := ?vx1) rfl (by kernel_rfl) (by kernel_rfl) (by kernel_rfl) (fun _ _ _ h => h) (by rfl) ?yx1 (by assumption) ?rx1
           case yx1 => (intro w hSw; (try dsimp only at hSw); go_simp; try with_reducible rfl)
           try simp only [Act.put, List.setIfInBounds_toArray, List.set_cons_zero, List.set_cons_succ]
           refine take_run (i := 2) (v := ?vx2) rfl (by kernel_rfl) (by kernel_rfl) (by kernel_rfl) (fun _ _ _ h => h) (by rfl) ?yx2 (by assumption) ?rx2
           case yx2 => (intro w hSw; (try dsimp only at hSw); go_simp; try with_reducible rfl)
           try simp only [Act.put, List.setIfInBounds_toArray, List.set_cons_zero, List.set_cons_succ]
           refine take_run (i := 3) (v := ?vx3) rfl (by kernel_rfl) (by kernel_rfl) (by kernel_rfl) (fun _ _ _ h => h) (by rfl) ?yx3 (by assumption) ?rx3
           case yx3 => (intro w hSw; (try dsimp only at hSw); go_simp; try with_reducible rfl)
           try simp only [Act.put, List.setIfInBounds_toArray, List.set_cons_zero, List.set_cons_succ]
           refine take_run (i := 4) (v := ?vx4) rfl (by kernel_rfl) (by kernel_rfl) (by kernel_rfl) (fun _ _ _ h => h) (by rfl) ?yx4 (by assumption) ?rx4
           case yx4 => (intro w hSw; (try dsimp only at hSw); go_simp; try with_reducible rfl)
           try simp only [Act.put, List.setIfInBounds_toArray, List.set_cons_zero, List.set_cons_succ]
           refine take_run (i := 5) (v := ?vx5) rfl (by kernel_rfl) (by kernel_rfl) (by kernel_rfl) (fun _ _ _ h => h) (by rfl) ?yx5 (by assumption) ?rx5
           case yx5 => (intro w hSw; (try dsimp only at hSw); go_simp; try with_reducible rfl)
           try simp only [Act.put, List.setIfInBounds_toArray, List.set_cons_zero, List.set_cons_succ]
           refine take_run (i := 6) (v := ?vx6) rfl (by kernel_rfl) (by kernel_rfl) (by kernel_rfl) (fun _ _ _ h => h) (by rfl) ?yx6 (by assumption) ?rx6
           case yx6 => (intro w hSw; (try dsimp only at hSw); go_simp; try with_reducible rfl)
           try simp only [Act.put, List.setIfInBounds_toArray, List.set_cons_zero, List.set_cons_succ]
           refine take_run (i := 7) (v := ?vx7) rfl (by kernel_rfl) (by kernel_rfl) (by kernel_rfl) (fun _ _ _ h => h) (by rfl) ?yx7 (by assumption) ?rx7
           case yx7 => (intro w hSw; (try dsimp only at hSw); go_simp; try with_reducible rfl)
           try simp only [Act.put, List.setIfInBounds_toArray, List.set_cons_zero, List.set_cons_succ]
           refine take_run (i := 8) (v := ?vx8) rfl (by kernel_rfl) (by kernel_rfl) (by kernel_rfl) (fun _ _ _ h => h) (by rfl) ?yx8 (by assumption) ?rx8
           case yx8 => (intro w hSw; (try dsimp only at hSw); go_simp; try with_reducible rfl)
           try simp only [Act.put, List.setIfInBounds_toArray, List.set_cons_zero, List.set_cons_succ]
           refine take_call (i := 9) rfl (by kernel_rfl) (by rfl) (fun Kq hK => ?_)
           go_simp
           go_at_call 89
           refine (containsInt_any Ar prow.length cr prow ql2 _ wx.drew rfl hprl (show Els wx.drew _ prow Ar from HErow.out)).mono ?_
           rintro e wv ⟨rfl, rfl⟩
           rw [d0]
           refine hK.out _ _ ?hx9 (fun hHeld => ?rx9)
           case hx9 => ((try dsimp only); go_keep)
           clear hK Kq
           try simp only [Act.put, List.setIfInBounds_toArray, List.set_cons_zero, List.set_cons_succ]
           refine take_run (i := 10) (v := ?vx10) rfl (by kernel_rfl) (by kernel_rfl) (by kernel_rfl) (fun _ _ _ h => h) (by rfl) ?yx10 (by assumption) ?rx10
           case yx10 => (intro w hSw; (try dsimp only at hSw); go_simp; try with_reducible rfl)
           try simp only [Act.put, List.setIfInBounds_toArray, List.set_cons_zero, List.set_cons_succ]
           refine take_bar (i := 11) rfl (by kernel_rfl) (by kernel_rfl) (by kernel_rfl) (fun _ _ _ h => h) (by rfl) (by assumption) ?_
           try simp only [Act.put, List.setIfInBounds_toArray, List.set_cons_zero, List.set_cons_succ]
           refine take_bar (i := 12) rfl (by kernel_rfl) (by kernel_rfl) (by kernel_rfl) (fun _ _ _ h => h) (by rfl) (by assumption) ?_
           try simp only [Act.put, List.setIfInBounds_toArray, List.set_cons_zero, List.set_cons_succ]
           refine take_bar (i := 13) rfl (by kernel_rfl) (by kernel_rfl) (by kernel_rfl) (fun _ _ _ h => h) (by rfl) (by assumption) ?_
           try simp only [Act.put, List.setIfInBounds_toArray, List.set_cons_zero, List.set_cons_succ]
           refine take_bar (i := 14) rfl (by kernel_rfl) (by kernel_rfl) (by kernel_rfl) (fun _ _ _ h => h) (by rfl) (by assumption) ?_
           try simp only [Act.put, List.setIfInBounds_toArray, List.set_cons_zero, List.set_cons_succ]
           refine take_bar (i := 15) rfl (by kernel_rfl) (by kernel_rfl) (by kernel_rfl) (fun _ _ _ h => h) (by rfl) (by assumption) ?_
           try simp only [Act.put, List.setIfInBounds_toArray, List.set_cons_zero, List.set_cons_succ]
           refine take_bar (i := 16) rfl (by kernel_rfl) (by kernel_rfl) (by kernel_rfl) (fun _ _ _ h => h) (by rfl) (by assumption) ?_
           try simp only [Act.put, List.setIfInBounds_toArray, List.set_cons_zero, List.set_cons_succ]
           refine take_bar (i := 17) rfl (by kernel_rfl) (by kernel_rfl) (by kernel_rfl) (fun _ _ _ h => h) (by rfl) (by assumption) ?_
           try simp only [Act.put, List.setIfInBounds_toArray, List.set_cons_zero, List.set_cons_succ]
           refine take_bar (i := 18) rfl (by kernel_rfl) (by kernel_rfl) (by kernel_rfl) (fun _ _ _ h => h) (by rfl) (by assumption) ?_
           try simp only [Act.put, List.setIfInBounds_toArray, List.set_cons_zero, List.set_cons_succ]
           refine take_bar (i := 19) rfl (by kernel_rfl) (by kernel_rfl) (by kernel_rfl) (fun _ _ _ h => h) (by rfl) (by assumption) ?_
           try simp only [Act.put, List.setIfInBounds_toArray, List.set_cons_zero, List.set_cons_succ]
           refine take_bar (i := 20) rfl (by kernel_rfl) (by kernel_rfl) (by kernel_rfl) (fun _ _ _ h => h) (by rfl) (by assumption) ?_
           try simp only [Act.put, List.setIfInBounds_toArray, List.set_cons_zero, List.set_cons_succ]
           refine take_bar (i := 21) rfl (by kernel_rfl) (by kernel_rfl) (by kernel_rfl) (fun _ _ _ h => h) (by rfl) (by assumption) ?_
           try simp only [Act.put, List.setIfInBounds_toArray, List.set_cons_zero, List.set_cons_succ]
           refine take_run (i := 22) (v := ?vx22) rfl (by kernel_rfl) (by kernel_rfl) (by kernel_rfl) (fun _ _ _ h => h) (by rfl) ?yx22 (by assumption) ?rx22
           case yx22 => (intro w hSw; (try dsimp only at hSw); go_simp; try with_reducible rfl)
           try simp only [Act.put, List.setIfInBounds_toArray, List.set_cons_zero, List.set_cons_succ]
           refine wpAnyH_done (by kernel_rfl) ?_ _
           refine NoPanic.normal ?_
           go_wp2
           go_roundw
           case rel => exact ⟨rfl, kk + 1, hkl, by go_num, HNk.out, HBx2.out.drew⟩
           case measure => simp [intOf]; omega
         ·exact absurd HSome.out.2 (HNN.out (z0 : Int) (by omega) (by have := HSome.out.1; omega))
       ·have hpe : p + 1 = k := by omega
        have HFin : Hid (CycF ⟨(m : Int), (n : Int), gs, rs⟩ n k j ⟨(y : Int), qr⟩ l) := Lib.hid ⟨⟨hk1, hkn⟩, HQ.out.1, by show TabR _ _ _ (y : Int).toNat; rw [Int.toNat_natCast]; exact HXt.out, HNo.out, HNi.out, by show CycTo _ _ _ (y : Int).toNat _ _; rw [Int.toNat_natCast]; have h := HWy.out.1; rw [show p = k - 1 by omega] at h; exact h⟩
        have hneg : (k : Int) - 2 - (p : Int) = -1 := by omega
        rw [hneg]
        go_wp2
        go_ret
        exact .inr ⟨_, k, j, _, l, rfl, HFin.out, HOz.out.base (by have := HWe.out.1.size; have := HB3.out.size; omega), bthen (bthen HB3.out HWe.out.1 HB3.out.size) HBz.out (by have := HWe.out.1.size; have := HB3.out.size; omega)⟩
    ·have hjj : j = rs.length := by omega
     have HNn : Hid (∀ k', 1 ≤ k' → k' < k + 1 → ∀ q' ∈ rs, ¬ TabR ⟨(m : Int), (n : Int), gs, rs⟩ (k' - 1) q' q'.left.toNat) := Lib.hid (fun k' h1 h2 q' hq' => by
      by_cases e : k' = k
      ·subst e
       obtain ⟨i', hi'⟩ := List.mem_iff_getElem?.1 hq'
       exact HNi.out i' (by have := (List.getElem?_eq_some_iff.1 hi').1; omega) q' hi'
      ·exact HNo.out k' h1 (by omega) q' hq')
     go_wp2
     go_roundw
     case rel => exact ⟨k + 1, by omega, by omega, by go_num, HNn.out, HBi.out⟩
     case measure => simp [intOf]; omega
  ·have HFin : Hid (NoCyc ⟨(m : Int), (n : Int), gs, rs⟩ n) := Lib.hid (fun k' h1 h2 => HNo.out k' h1 (by omega))
   go_wp2
   go_ret
   exact .inl ⟨rfl, HFin.out, bthen HB3.out HB.out HB3.out.size⟩
end Go.Proofs.YtjdojogjogenkaaDoor
