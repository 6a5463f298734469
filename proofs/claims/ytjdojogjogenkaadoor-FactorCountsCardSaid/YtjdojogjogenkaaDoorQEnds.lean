/- Contract: core.Ends: for each nonterminal and each beginning, where the parts end that it derives. -/
import Derived.Test.YtjdojogjogenkaaDoorQReach
import Derived.Test.YtjdojogjogenkaaDoorQw1
import Derived.Deep.LoopGhost
namespace Go.Proofs.YtjdojogjogenkaaDoor
open Go.RowKit
set_option linter.unusedVariables false
def EnA (n m bf : Nat) (w2 : World) (i : Value) (wr : World) : Prop :=
 ∃ (k : Nat) (bs : List Nat), k ≤ n ∧ i = .int .i64 k ∧ bs.length = k ∧ RowPU wr bf n (m + 1) bs (List.replicate k (List.replicate (m + 1) 0)) ∧ Kept (fun b => b = bf) w2 wr
structure EnS (g : Gram) (ws : List Int) (n bf : Nat) (bs : List Nat) (T : List (List Nat)) (w : World) (gc : Array Value) (wr : World) : Prop where
 rows : RowsU wr bf bs (ws.length + 1) n n T
 shape : MskS ws.length n T
 snd : SndM g ws T
 below : Below w.heap.size w wr
 gb : Blk' wr w.heap.size 24 gc
theorem EnS.next {g : Gram} {ws : List Int} {n bf : Nat} {bs : List Nat} {T : List (List Nat)} {w : World} {gc : Array Value} {wr w' : World} (h : EnS g ws n bf bs T w gc wr) (k : Below wr.heap.size wr w') : EnS g ws n bf bs T w gc w' :=
 ⟨h.rows.below k, h.shape, h.snd, bthen h.below k h.below.size, h.gb.below k h.gb.lt⟩
def EnO (g : Gram) (ws : List Int) (n bf : Nat) (bs : List Nat) (w : World) (gc : Array Value) (gk : Nat) (ag : Value) (wr : World) : Prop :=
 ∃ (T : List (List Nat)) (b : Bool), ag = .bool b ∧ EnS g ws n bf bs T w gc wr ∧ (b = false → ClM g ws T) ∧ fuelM T + (if b then 1 else 0) ≤ gk
def EnI (g : Gram) (ws : List Int) (n bf : Nat) (bs : List Nat) (w : World) (gc : Array Value) (T0 : List (List Nat)) (ag i : Value) (wr : World) : Prop :=
 ∃ (j : Nat) (T : List (List Nat)) (b : Bool), j ≤ g.rules.length ∧ i = .int .i64 j ∧ ag = .bool b ∧ EnS g ws n bf bs T w gc wr ∧ (b = false → T = T0 ∧ ∀ q ∈ g.rules.take j, ∀ i, i ≤ ws.length → ClAt ws T0 q i) ∧ (b = true → fuelM T < fuelM T0)
def EnJ (g : Gram) (ws : List Int) (n bf : Nat) (bs : List Nat) (w : World) (gc : Array Value) (T0 : List (List Nat)) (j : Nat) (q : Rule) (ag i : Value) (wi wr : World) : Prop :=
 ∃ (p : Nat) (T : List (List Nat)) (b : Bool), p ≤ ws.length + 1 ∧ i = .int .i64 p ∧ ag = .bool b ∧ EnS g ws n bf bs T w gc wr ∧ (b = false → T = T0 ∧ (∀ q ∈ g.rules.take j, ∀ i, i ≤ ws.length → ClAt ws T0 q i) ∧ ∀ i, i < p → ClAt ws T0 q i) ∧ (b = true → fuelM T < fuelM T0) ∧ wi.heap.size ≤ wr.heap.size ∧ wr.heap[w.heap.size]? = wr.heap[w.heap.size]? ∧ (∀ k, k < wi.heap.size → k ∉ bs → wr.heap[k]? = wi.heap[k]?)
def RetEnds (g : Gram) (ws : List Int) (n : Nat) (w : World) (e : Ending) (w' : World) : Prop :=
 ∃ bf bs T, e = .returned (.slice (some ⟨bf, 0, none⟩) n n) ∧ RowsU w' bf bs (ws.length + 1) n n T ∧ MskS ws.length n T ∧ SndM g ws T ∧ ClM g ws T ∧ (∀ b ∈ bf :: bs, w.heap.size ≤ b) ∧ Below w.heap.size w w'
set_option maxRecDepth 100000 in
set_option maxHeartbeats 8000000 in
theorem ends_acc (g : Gram) (n : Nat) (ws : List Int) (A B : Option Addr) (c cw : Nat) (S Sw : Nat → Prop) (w : World) (hgn : g.nons = (n : Int)) (hck : checkI g = 0) (hlc : g.rules.length ≤ c) (hc : c ≤ 9223372036854775807) (hA : Els w S g.rules A) (hS : ∀ b, S b → b < w.heap.size)
  (hm : ws.length ≤ 12) (hB : Els w Sw ws B) (hSw : ∀ b, Sw b → b < w.heap.size) (hTab : Tab32 w) :
  Calls Tryd.prog 99 #[.agg #[.int .i64 g.terms, .int .i64 g.nons, .int .i64 g.start, .slice A g.rules.length c], .slice B ws.length cw] w (RetEnds g ws n w) := by
 have hv := validG_of hck
 obtain ⟨gt, gn, gs, rs⟩ := g
 dsimp only at *
 subst hgn
 have hn : 1 ≤ n ∧ n ≤ 10 := by have := hv.n1; have := hv.n10; dsimp only at *; omega
 have hrl : rs.length ≤ 32 := hv.len
 have HRu : Hid (∀ q ∈ rs, (0 ≤ q.left ∧ q.left < (n : Int)) ∧ q.right.length ≤ 4 ∧ ∀ s ∈ q.right, 0 ≤ s.n ∧ (s.term = false → s.n < (n : Int))) := Lib.hid (fun q hq => ⟨⟨(hv.rules q hq).1, (hv.rules q hq).2.1⟩, (hv.rules q hq).2.2.1, fun s hs => by
  have h := (hv.rules q hq).2.2.2 s hs
  refine ⟨h.1, fun ht => ?_⟩
  have h2 := h.2
  simp [ht] at h2
  exact h2⟩)
 have HA := Lib.hid hA
 have HS := Lib.hid hS
 have HB := Lib.hid hB
 have HSw := Lib.hid hSw
 have HTab := Lib.hid hTab
 have hm9 : (ws.length : Int) ≤ 12 := by omega
 have hn9 : (n : Int) ≤ 10 := by omega
 have HN1 := Lib.hid hn
 have hmk1 := mkRowsU n (by omega)
 have hmk2 : ∀ W : World, (Instr.makeSlice 196 (.int .i64 ((ws.length : Int) + 1)) (.int .i64 ((ws.length : Int) + 1))).run Tryd.prog W = .ok (.slice (some ⟨W.heap.size, 0, none⟩) (ws.length + 1) (ws.length + 1)) (W.alloc (.cells (ucells (List.replicate (ws.length + 1) 0)) 195)) := fun W => by have h := mkU32 (ws.length + 1) (by omega) W; push_cast at h; exact h
 obtain ⟨w0, hw0⟩ : ∃ w0 : World, w0 = w.alloc (.cells #[.int .i64 gt, .int .i64 (n : Int), .int .i64 gs, .slice A rs.length c] 24) := ⟨_, rfl⟩
 have hb0 : Below w.heap.size w w0 := by rw [hw0]; exact (Below.refl _ _).alloc (Nat.le_refl _) _
 have HB0 := Lib.hid hb0
 have HG0 : Hid (Blk' w0 w.heap.size 24 #[.int .i64 gt, .int .i64 (n : Int), .int .i64 gs, .slice A rs.length c]) := Lib.hid (by rw [hw0]; exact Blk'.new _ _ _)
 obtain ⟨w2, hw2⟩ : ∃ w2 : World, w2 = w0.alloc (.cells (sucells [] 0 n) 196) := ⟨_, rfl⟩
 have hb2 : Below w0.heap.size w0 w2 := by rw [hw2]; exact (Below.refl _ _).alloc (Nat.le_refl _) _
 have H2 : Hid (Below w.heap.size w w2 ∧ Blk' w2 w.heap.size 24 #[.int .i64 gt, .int .i64 (n : Int), .int .i64 gs, .slice A rs.length c] ∧ Blk' w2 w0.heap.size 196 (sucells [] 0 n)) :=
  Lib.hid ⟨bthen hb0 hb2 hb0.size, HG0.out.below hb2 HG0.out.lt, by rw [hw2]; exact Blk'.new _ _ _⟩
 have HZ0 : Hid (w0.heap.size = w.heap.size + 1) := Lib.hid (by rw [hw0]; simp)
 have HW0 := Lib.hid hw0
 have HW2 := Lib.hid hw2
 clear hv hA hS hB hSw hTab hb0 hw0 hw2 hb2 hn
 go_enter Tryd.func99, Tryd.ntmps99
 go_upto_region 1 with (fail)
 rw [← HW0.out]
 have a1 : w0.cell? ⟨w.heap.size, 1, none⟩ = some (.int .i64 (n : Int)) := HG0.out.cell 1
 have zG0 : w.heap.size < w0.heap.size := HG0.out.lt
 go_upto_region 2 with (fail)
 rw [← HW2.out]
 clear a1 zG0
 go_wp2_with fail
 go_loopw [17] (fun i wr => EnA n ws.length w0.heap.size w2 i wr) (fun i _ => n - (intOf i).toNat)
 case atStart => exact ⟨0, [], Nat.zero_le _, rfl, rfl, RowPU.start (ws.length + 1) H2.out.2.2, Kept.refl _ _⟩
 case round =>
  obtain ⟨wo, hwo⟩ : ∃ wo : World, wo = wr := ⟨_, rfl⟩
  subst hwo
  obtain ⟨k, bs, hk, rfl, hbl, hP, hkp⟩ := hrel
  have HP := Lib.hid hP
  have HK := Lib.hid hkp
  have zF := hP.outer.lt
  have hzo := hkp.size
  clear hP hkp
  by_cases hkn : k < n
  ·have hk0 : (0 : Int) ≤ (k : Int) := by omega
   have hk9 : (k : Int) < (n : Int) := by omega
   have c0 : wo.cell? ⟨w0.heap.size, k, none⟩ = some (.slice none 0 0) := (HP.out.outer.cell k).trans (sucells_nil (by omega) hkn)
   have f0 := HP.out.outer.frozen k
   have HBl := Lib.hid hbl
   have HK2 : Hid (Kept (fun b => b = w0.heap.size) wo ((wo.setCell ⟨w0.heap.size, k, none⟩ (.slice (some ⟨wo.heap.size, 0, none⟩) (ws.length + 1) (ws.length + 1))).alloc (.cells (ucells (List.replicate (ws.length + 1) 0)) 195))) := Lib.hid (((Kept.refl (fun b => b = w0.heap.size) wo).setCell (p := ⟨w0.heap.size, k, none⟩) (.inl rfl) _).alloc _)
   have HN2 : Hid (RowPU ((wo.setCell ⟨w0.heap.size, k, none⟩ (.slice (some ⟨wo.heap.size, 0, none⟩) (ws.length + 1) (ws.length + 1))).alloc (.cells (ucells (List.replicate (ws.length + 1) 0)) 195)) w0.heap.size n (ws.length + 1) (bs ++ [wo.heap.size]) (List.replicate (k + 1) (List.replicate (ws.length + 1) 0))) := Lib.hid (by
    rw [show List.replicate (k + 1) (List.replicate (ws.length + 1) 0) = List.replicate k (List.replicate (ws.length + 1) 0) ++ [List.replicate (ws.length + 1) 0] from List.replicate_succ']
    refine HP.out.next (by omega) HK2.out ?_ (Blk'.new' _ _ _ (by simp [World.setCell])) (by simp) (Nat.le_refl _)
    rw [← sucells_set (by omega), hbl]
    exact (HP.out.outer.set_ k _).alloc _)
   have zF2 : w0.heap.size < wo.heap.size + 1 := by omega
   clear hbl
   go_wp2
   go_roundw
   case rel => exact ⟨k + 1, bs ++ [wo.heap.size], hkn, by go_num, by simp [HBl.out], HN2.out, HK.out.trans HK2.out⟩
   case measure => simp [intOf]; omega
  ·have hkk : k = n := by omega
   have HRM : Hid (RowsU wo w0.heap.size bs (ws.length + 1) n n (List.replicate n (List.replicate (ws.length + 1) 0))) := Lib.hid (by have h := HP.out.done (by omega) (by omega); rw [hkk] at h; exact h)
   have HBs : Hid (∀ b ∈ bs, w0.heap.size < b) := Lib.hid (fun b hb => (HP.out.lt b hb).1)
   have HE0 : Hid (EnS ⟨gt, (n : Int), gs, rs⟩ ws n w0.heap.size bs (List.replicate n (List.replicate (ws.length + 1) 0)) w #[.int .i64 gt, .int .i64 (n : Int), .int .i64 gs, .slice A rs.length c] wo) := Lib.hid ⟨HRM.out, MskS.init n ws.length, SndM.init _ _ _, bthen H2.out.1 (HK.out.to_below (B := w.heap.size) (fun b hb => by have := HZ0.out; omega) H2.out.1.size) (Nat.le_refl _), H2.out.2.1.kept HK.out (by have := HZ0.out; omega)⟩
   clear H2 HP HK HW2 HRM HG0 HB0
   go_wp2_with fail
   clear hkk hkn hk
   go_loopg [7] (fuelM (List.replicate n (List.replicate (ws.length + 1) 0)) + 1) (fun gk ag wr => EnO ⟨gt, (n : Int), gs, rs⟩ ws n w0.heap.size bs w #[.int .i64 gt, .int .i64 (n : Int), .int .i64 gs, .slice A rs.length c] gk ag wr)
   case atStart => exact ⟨_, true, rfl, HE0.out, (fun h => by cases h), Nat.le_refl _⟩
   case round =>
    obtain ⟨wa, hwa⟩ : ∃ wa : World, wa = wr := ⟨_, rfl⟩
    subst hwa
    obtain ⟨T0, b, rfl, hE, hcl, hfu⟩ := hrel
    have HE := Lib.hid hE
    have HCl := Lib.hid hcl
    have HFu := Lib.hid hfu
    have g3 : wa.cell? ⟨w.heap.size, 3, none⟩ = some (.slice A rs.length c) := hE.gb.cell 3
    have zGa : w.heap.size < wa.heap.size := hE.gb.lt
    clear hE hcl hfu HE0
    cases b
    ·go_wp2
     go_ret
     exact ⟨w0.heap.size, bs, T0, rfl, HE.out.rows, HE.out.shape, HE.out.snd, HCl.out (by first | exact rfl | exact trivial), fun b hb => (by
      have := HZ0.out
      rcases List.mem_cons.1 hb with rfl | hb
      ·omega
      ·have := HBs.out b hb; omega), HE.out.below⟩
    ·go_wp2_with fail
     go_loopw [7, 32] (fun ag i wr => EnI ⟨gt, (n : Int), gs, rs⟩ ws n w0.heap.size bs w #[.int .i64 gt, .int .i64 (n : Int), .int .i64 gs, .slice A rs.length c] T0 ag i wr) (fun _ i _ => rs.length - (intOf i).toNat)
     case atStart => exact ⟨0, T0, false, Nat.zero_le _, rfl, rfl, HE.out, (fun _ => ⟨rfl, fun q hq => by simp at hq⟩), (fun h => by cases h)⟩
     case round =>
      obtain ⟨wi, hwi⟩ : ∃ wi : World, wi = wr := ⟨_, rfl⟩
      subst hwi
      obtain ⟨j, T, b, hj, rfl, rfl, hE, hb0, hb1⟩ := hrel
      dsimp only at hj
      have HEi := Lib.hid hE
      have HBi := Lib.hid (And.intro hb0 hb1)
      clear hE hb0 hb1 g3
      by_cases hlt : j < rs.length
      ·obtain ⟨q, hq⟩ := get_some hlt
       obtain ⟨bq, oq, Aq, cq, rfl, hSb, hbs, hqi, hrc, hcr, hEr, hc0, hc1⟩ := (HA.out.belowB HEi.out.below HS.out).rule hq
       have hru := HRu.out q (List.mem_of_getElem? hq)
       have HQ := Lib.hid (And.intro hq (And.intro hru (List.mem_of_getElem? hq)))
       obtain ⟨ql, qr⟩ := q
       dsimp only at hqi hrc hcr hEr hc0 hc1 hru
       obtain ⟨y, rfl⟩ : ∃ y : Nat, ql = (y : Int) := ⟨ql.toNat, by omega⟩
       have hyn : y < n := by omega
       have hy9 : (y : Int) < (n : Int) := by omega
       have hy0 : (0 : Int) ≤ (y : Int) := by omega
       have hj0 : (0 : Int) ≤ (j : Int) := by omega
       have hqr4 : qr.length ≤ 4 := hru.2.1
       obtain ⟨wq, hwq⟩ : ∃ wq : World, wq = wi.alloc (.cells #[.int .i64 (y : Int), .slice Aq qr.length cq] 60) := ⟨_, rfl⟩
       have HWq := Lib.hid hwq
       have hbq : Below wi.heap.size wi wq := by rw [hwq]; exact (Below.refl _ _).alloc (Nat.le_refl _) _
       have HEq := Lib.hid (HEi.out.next hbq)
       have HQb : Hid (Blk' wq wi.heap.size 60 #[.int .i64 (y : Int), .slice Aq qr.length cq]) := Lib.hid (by rw [hwq]; exact Blk'.new _ _ _)
       have hzw : w.heap.size ≤ wi.heap.size := HEi.out.below.size
       have HEr := Lib.hid (hEr.below hbq)
       clear hq hwq hbq hEr hqi hru
       go_upto_region 13 with (fail)
       rw [← HWq.out]
       clear hc0 hc1
       go_wp2_with fail
       go_loopw [7, 39] (fun ag i wr => ∃ (p : Nat) (T : List (List Nat)) (b : Bool), p ≤ ws.length + 1 ∧ i = .int .i64 p ∧ ag = .bool b ∧ EnS ⟨gt, (n : Int), gs, rs⟩ ws n w0.heap.size bs T w #[.int .i64 gt, .int .i64 (n : Int), .int .i64 gs, .slice (some ⟨bq, oq, none⟩) rs.length c] wr ∧ (b = false → T = T0 ∧ (∀ q ∈ rs.take j, ∀ i, i ≤ ws.length → ClAt ws T0 q i) ∧ ∀ i, i < p → ClAt ws T0 ⟨(y : Int), qr⟩ i) ∧ (b = true → fuelM T < fuelM T0) ∧ Kept (fun b => b ∈ bs) wq wr) (fun _ i _ => ws.length + 1 - (intOf i).toNat)
       case atStart => exact ⟨0, T, b, Nat.zero_le _, rfl, rfl, HEq.out, (fun h => ⟨(HBi.out.1 h).1, (HBi.out.1 h).2, fun i hi => by omega⟩), HBi.out.2, Kept.refl _ _⟩
       case round =>
        obtain ⟨wz, hwz⟩ : ∃ wz : World, wz = wr := ⟨_, rfl⟩
        subst hwz
        obtain ⟨p, T1, b1, hp, rfl, rfl, hE, hb0, hb1, hkp⟩ := hrel
        have HEz := Lib.hid hE
        have HBz := Lib.hid (And.intro hb0 hb1)
        have HKz := Lib.hid hkp
        have hnb : ∀ b ∈ bs, b < wi.heap.size := fun b hb => HEi.out.rows.lt b (by simp [hb])
        have HNb := Lib.hid hnb
        have HQz := Lib.hid (HQb.out.kept hkp (fun h => by have := hnb _ h; omega))
        clear hE hb0 hb1 hkp hnb
        by_cases hpl : p ≤ ws.length
        ·have q1 : wz.cell? ⟨wi.heap.size, 1, none⟩ = some (.slice Aq qr.length cq) := HQz.out.cell 1
         have zQz : wi.heap.size < wz.heap.size := HQz.out.lt
         have hp9 : (p : Int) < (ws.length : Int) + 1 := by omega
         have hp0 : (0 : Int) ≤ (p : Int) := by omega
         have hErz : Els wz S qr Aq := HEr.out.kept HKz.out (fun b hSb2 hbb => by have := HS.out b hSb2; have := HBs.out b hbb; have := HZ0.out; omega)
         have HErz := Lib.hid hErz
         have hBz2 : Els wz Sw ws B := HB.out.belowB HEz.out.below HSw.out
         have HBz2 := Lib.hid hBz2
         have HTz := Lib.hid (HTab.out.below HEz.out.below HTab.out.1)
         clear hErz hBz2
         go_wp2_with fail
         refine (reach_any ws T1 qr n p w0.heap.size bs Aq B cq cw S Sw wz hm HEz.out.rows HEz.out.shape (by have := HN1.out; omega) (by omega) HErz.out HBz2.out HQ.out.2.1.2.2 hpl HTz.out).mono ?_
         rintro e w5 ⟨x, rfl, hx, hxw, hb5⟩
         have HX := Lib.hid hx
         have HXw := Lib.hid hxw
         have HE5 := Lib.hid (HEz.out.next hb5)
         have HK5 := Lib.hid (HKz.out.trans (Kept.of_below (fun b => b ∈ bs) hb5))
         have hQ5 := HQz.out.below hb5 HQz.out.lt
         have r0 : w5.cell? ⟨wi.heap.size, 0, none⟩ = some (.int .i64 (y : Int)) := hQ5.cell 0
         have zQ5 : wi.heap.size < w5.heap.size := hQ5.lt
         obtain ⟨br, hbr⟩ := get_some (show y < bs.length by rw [HE5.out.rows.blen]; exact hyn)
         obtain ⟨row, hrow⟩ := get_some (show y < T1.length by rw [HE5.out.shape.len]; exact hyn)
         have hBr := HE5.out.rows.rows y br row hbr hrow
         obtain ⟨v, hv⟩ := get_some (show p < row.length by rw [hBr.2]; omega)
         have d0 : w5.cell? ⟨w0.heap.size, y, none⟩ = some (.slice (some ⟨br, 0, none⟩) (ws.length + 1) (ws.length + 1)) := HE5.out.rows.outer y br hbr
         have d1 : w5.cell? ⟨br, p, none⟩ = some (.int .u32 (v : Int)) := (hBr.1.cell _).trans (ucells_get hv)
         have fr := hBr.1.frozen p
         have zF5 : w0.heap.size < w5.heap.size := HE5.out.rows.bflt
         have zbr : br < w5.heap.size := hBr.1.lt
         have hTd : T1.getD y [] = row := by rw [List.getD_eq_getElem?_getD, hrow]; rfl
         have hmsk : mskAt T1 y p = v := by unfold mskAt; rw [hTd, List.getD_eq_getElem?_getD, hv]; rfl
         have hpm : 2 ^ (ws.length + 1) ≤ 8192 := pow13 (by omega)
         have hv13 : v < 2 ^ (ws.length + 1) := by rw [← hmsk]; exact HE5.out.shape.low _ _
         have hx14 : x < 8192 := by omega
         have hv14 : v < 8192 := by omega
         have hpw : (p : Int) < (ws.length : Int) + 1 := by omega
         by_cases hz : x &&& (4294967295 - v) = 0
         ·have han : bits .andNot .u32 (x : Int) (v : Int) = 0 := by rw [u32_andNot_nat x v (by omega) (by omega), hz]; rfl
          have HCa : Hid (T1 = T0 → ClAt ws T0 ⟨(y : Int), qr⟩ p) := Lib.hid (fun e k hk => by
           rw [← e] at hk ⊢
           have h1 := andNot_zero (show x < 2 ^ 32 by omega) (show v < 2 ^ 32 by omega) hz k ((hxw k).2 hk)
           show (mskAt T1 ((y : Int)).toNat p).testBit k = true
           rw [Int.toNat_natCast, hmsk]
           exact h1)
          clear hx hxw hb5 hQ5 hbr hrow hBr hv hTd hmsk hpm hv13 hz q1 zQz
          go_wp2
          go_roundw
          case rel => exact ⟨p + 1, T1, b1, by omega, by go_num, rfl, HE5.out, (fun h => ⟨(HBz.out.1 h).1, (HBz.out.1 h).2.1, fun i hi => by
           by_cases e : i = p
           ·subst e; exact HCa.out (HBz.out.1 h).1
           ·exact (HBz.out.1 h).2.2 i (by omega)⟩), HBz.out.2, HK5.out⟩
          case measure => simp [intOf]; omega
         ·have han : ¬ bits .andNot .u32 (x : Int) (v : Int) = 0 := by rw [u32_andNot_nat x v (by omega) (by omega)]; omega
          have hor : bits .or .u32 (v : Int) (x : Int) = ((v ||| x : Nat) : Int) := u32_or_nat v x (by omega) (by omega)
          have hvx : v ||| x < 2 ^ (ws.length + 1) := or_lt hv13 hx
          have hlt2 := andNot_pos (show x < 2 ^ 32 by omega) (show v < 2 ^ 32 by omega) hz
          have hkd := (Kept.refl (fun b => b = br) w5).setCell (p := ⟨br, p, none⟩) (.inl rfl) (.int .u32 ((v ||| x : Nat) : Int))
          have hmem := List.mem_of_getElem? hbr
          have hnbr : ¬ w.heap.size = br := by have := HBs.out br hmem; have := HZ0.out; omega
          have hnbi : ¬ wi.heap.size = br := by have := HNb.out br hmem; omega
          have HEn : Hid (EnS ⟨gt, (n : Int), gs, rs⟩ ws n w0.heap.size bs (setM T1 y p (v ||| x)) w #[.int .i64 gt, .int .i64 (n : Int), .int .i64 gs, .slice (some ⟨bq, oq, none⟩) rs.length c] (w5.setCell ⟨br, p, none⟩ (.int .u32 ((v ||| x : Nat) : Int)))) := Lib.hid ⟨by
            unfold setM
            rw [hTd]
            exact HE5.out.rows.setRow hbr hkd (by rw [← ucells_set]; exact hBr.1.set_ p _) (by rw [List.length_set]; exact hBr.2),
           HE5.out.shape.set_ hyn hpl hvx, by
            have h := HE5.out.snd.step HE5.out.shape HQ.out.2.2 (by show (0 : Int) ≤ (y : Int); omega) (by show ((y : Int)).toNat < n; omega) (fun s hs => (HQ.out.2.1.2.2 s hs).1) hpl (x := x) (fun k hk => (hxw k).1 hk)
            dsimp only at h
            rw [Int.toNat_natCast, hmsk] at h
            exact h, HE5.out.below.setCell (p := ⟨br, p, none⟩) (by show w.heap.size ≤ br; have := HBs.out br hmem; have := HZ0.out; omega) _, HE5.out.gb.far (p := ⟨br, p, none⟩) hnbr _⟩
          have HFn : Hid (fuelM (setM T1 y p (v ||| x)) < fuelM T0) := Lib.hid (by
           have h1 := fuel_set HE5.out.shape hm hyn hpl (by rw [hmsk]; exact hlt2) hvx
           cases b1
           ·rw [(HBz.out.1 rfl).1] at h1; rw [(HBz.out.1 rfl).1]; exact h1
           ·exact Nat.lt_trans h1 (HBz.out.2 rfl))
          have HKn : Hid (Kept (fun b => b ∈ bs) wq (w5.setCell ⟨br, p, none⟩ (.int .u32 ((v ||| x : Nat) : Int)))) := Lib.hid (HK5.out.setCell (p := ⟨br, p, none⟩) (.inl hmem) _)
          clear hx hxw hb5 hQ5 hbr hrow hBr hv hTd hmsk hpm hv13 hz hvx hlt2 hkd q1 zQz hmem
          go_wp2
          go_roundw
          case rel => exact ⟨p + 1, _, true, by omega, by go_num, rfl, HEn.out, (fun h => by cases h), (fun _ => HFn.out), HKn.out⟩
          case measure => simp [intOf]; omega
        ·have hpe : p = ws.length + 1 := by omega
         have HIn : Hid (b1 = false → T1 = T0 ∧ ∀ q ∈ rs.take (j + 1), ∀ i, i ≤ ws.length → ClAt ws T0 q i) := Lib.hid (fun h => ⟨(HBz.out.1 h).1, fun q hq i hi => by
          rw [take_snoc HQ.out.1] at hq
          rcases List.mem_append.1 hq with hq | hq
          ·exact (HBz.out.1 h).2.1 q hq i hi
          ·simp at hq; subst hq; exact (HBz.out.1 h).2.2 i (by omega)⟩)
         have hpn : ¬ (p : Int) < (ws.length : Int) + 1 := by omega
         clear hpe
         go_wp2
         go_roundw
         case rel => exact ⟨j + 1, T1, b1, hlt, by go_num, rfl, HEz.out, HIn.out, HBz.out.2⟩
         case measure => simp [intOf]; omega
      ·have E := Lib.hid (show rs.take j = rs from List.take_of_length_le (by omega))
       go_wp2_with fail
       go_roundg (fuelM T + (if b then 1 else 0))
       case measure =>
        have h1 := HFu.out
        cases b
        ·have h2 := (HBi.out.1 rfl).1
         rw [h2]; simp at h1 ⊢; omega
        ·have h2 := HBi.out.2 rfl
         simp at h1 ⊢; omega
       case rel =>
        refine ⟨T, b, rfl, HEi.out, fun h => ?_, Nat.le_refl _⟩
        have h2 := HBi.out.1 h
        rw [E.out] at h2
        rw [h2.1]
        exact h2.2
end Go.Proofs.YtjdojogjogenkaaDoor
