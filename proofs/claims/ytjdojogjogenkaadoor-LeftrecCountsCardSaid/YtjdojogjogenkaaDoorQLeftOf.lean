/- Contract: leftrec.of of a valid grammar. -/
import Derived.Test.YtjdojogjogenkaaDoorQLeftIs
import Derived.Test.YtjdojogjogenkaaDoorQCycFind
import Derived.Test.YtjdojogjogenkaaDoorQw1
import Derived.Test.YtjdojogjogenkaaDoorQw2
import Derived.Test.YtjdojogjogenkaaDoorQp2
import Derived.Test.YtjdojogjogenkaaDoorQp1
import Derived.Test.YtjdojogjogenkaaDoorQRecur
import Derived.Deep.DeepCutAuto
namespace Go.Proofs.YtjdojogjogenkaaDoor
open Go.RowKit
set_option linter.unusedVariables false
def LfR (g : Gram) (n : Nat) (w : World) (B : Nat) (Q : Value → Value → World → Prop) (i : Value) (wr : World) : Prop :=
 ∃ (j : Nat) (v1 v2 : Value), j ≤ g.rules.length ∧ i = .int .i64 j ∧ Two wr (fun _ => False) B 60 3 v1 v2 ((g.rules.take j).map (strR g n)) (idxL j) ∧ Q v1 v2 wr ∧ Below w.heap.size w wr ∧ B ≤ wr.heap.size
def LfQ (P gT : Nat) (pl : Value → Value → Array Value) (tl gc : Array Value) (b : Nat) (v1 v2 : Value) (wr : World) : Prop :=
 Blk' wr P 79 (pl v1 v2) ∧ Blk' wr gT 3 tl ∧ Blk' wr b 24 gc
def LfL (g : Gram) (n P gT : Nat) (cells gcells : Array Value) (w : World) (nx i : Value) (wr : World) : Prop :=
 ∃ k : Nat, k ≤ n ∧ nx = .int .i64 ((n + cntRec g k : Nat) : Int) ∧ i = .int .i64 k ∧ Blk' wr P 79 cells ∧ Blk' wr gT 3 (icells (tailsL g n k)) ∧ Blk' wr w.heap.size 24 gcells ∧ Below w.heap.size w wr
def LfE (g : Gram) (n C : Nat) (w : World) (B : Nat) (Q : Value → Value → World → Prop) (t : Value) (wr : World) : Prop :=
 ∃ (i : Nat) (v1 v2 : Value), i ≤ C ∧ t = .int .i64 ((n + i : Nat) : Int) ∧ Two wr (fun _ => False) B 60 3 v1 v2 (g.rules.map (strR g n) ++ endR n i) (idxL g.rules.length ++ List.replicate i (-1)) ∧ Q v1 v2 wr ∧ Below w.heap.size w wr ∧ B ≤ wr.heap.size
theorem led_lt {g : Gram} {K : Nat} (hv : ValidG g) (hn : g.nons = (K : Int)) {a b : Nat} (h : Plus (LedE g) a b) : a < K := by
 induction h with
 | one b h =>
  obtain ⟨q, hq, h1, _⟩ := h
  have := (hv.rules q hq).2.1
  omega
 | snoc b c _ _ ih => exact ih
def RetPlan (g : Gram) (n : Nat) (A : Option Addr) (c : Nat) (w : World) (e : Ending) (w' : World) : Prop :=
 (∃ k, StrBad g n k ∧ e = .returned (.tuple #[.pointer none, .int .i64 k]) ∧ Below w.heap.size w w') ∨
 (StrOk g n ∧ ∃ (P gT : Nat) (A1 A2 : Option Addr) (c1 c2 : Nat), e = .returned (.tuple #[.pointer (some ⟨P, 0, none⟩), .int .i64 0]) ∧ w.heap.size ≤ P ∧
  Blk' w' P 79 #[.int .i64 g.terms, .int .i64 g.nons, .int .i64 g.start, .slice A g.rules.length c, .int .i64 (strG g n).terms, .int .i64 (strG g n).nons, .int .i64 (strG g n).start, .slice A1 (strG g n).rules.length c1, .slice (some ⟨gT, 0, none⟩) n n, .slice A2 (fromL g n).length c2] ∧
  (strG g n).rules.length ≤ c1 ∧ c1 ≤ 9223372036854775807 ∧ Els w' (fun b => w.heap.size ≤ b ∧ b < w'.heap.size) (strG g n).rules A1 ∧
  (fromL g n).length ≤ c2 ∧ c2 ≤ 9223372036854775807 ∧ Els w' (fun b => w.heap.size ≤ b ∧ b < w'.heap.size) (fromL g n) A2 ∧
  w.heap.size ≤ gT ∧ Blk' w' gT 3 (icells (tailsL g n n)) ∧ Below w.heap.size w w')
set_option maxRecDepth 100000 in
set_option maxHeartbeats 16000000 in
theorem leftOf_any (g : Gram) (m n : Nat) (A : Option Addr) (c : Nat) (S : Nat → Prop) (w : World) (hgt : g.terms = (m : Int)) (hgn : g.nons = (n : Int)) (hck : checkI g = 0) (hlc : g.rules.length ≤ c) (hc : c ≤ 9223372036854775807) (hA : Els w S g.rules A) (hS : ∀ b, S b → b < w.heap.size) :
  Calls Tryd.prog 34 #[.agg #[.int .i64 g.terms, .int .i64 g.nons, .int .i64 g.start, .slice A g.rules.length c]] w (RetPlan g n A c w) := by
 have hv := validG_of hck
 obtain ⟨gt, gn, gs, rs⟩ := g
 dsimp only at *
 subst hgt; subst hgn
 have hn : 1 ≤ n ∧ n ≤ 10 := by have := hv.n1; have := hv.n10; dsimp only at *; omega
 have hrl : rs.length ≤ 32 := hv.len
 have HN := Lib.hid hn
 have hn9 : (n : Int) ≤ 10 := by omega
 have HV := Lib.hid hv
 have HA := Lib.hid hA
 have HS := Lib.hid hS
 have HC := Lib.hid hck
 have HG0 := Lib.hid (Blk'.new w 24 #[.int .i64 (m : Int), .int .i64 (n : Int), .int .i64 gs, .slice A rs.length c])
 have HB0 : Hid (Below w.heap.size w (w.alloc (.cells #[.int .i64 (m : Int), .int .i64 (n : Int), .int .i64 gs, .slice A rs.length c] 24))) := Lib.hid ((Below.refl _ _).alloc (Nat.le_refl _) _)
 clear hv hA hS hck hn
 have hnil : ∀ (w : World) (a : Option Addr) (l c : Nat), (binOp .neq 33 (.slice a l c) (.slice none 0 0)).run Tryd.prog w = .ok (.bool (!a.isNone)) w := fun w a l c => by
  exact run_neq_slice_nil w _ _ a l c Tryd.underlying33
 go_enter Tryd.func34, Tryd.ntmps34
 go_wp2_with fail
 refine (check_any ⟨(m : Int), (n : Int), gs, rs⟩ A c S _ hlc hc (HA.out.belowB HB0.out HS.out)).mono ?_
 rintro e w1 ⟨rfl, hb1⟩
 rw [HC.out]
 have HB1 := Lib.hid (bthen HB0.out hb1 HB0.out.size)
 have HG1 := Lib.hid (HG0.out.below hb1 (by simp))
 have a0 : w1.cell? ⟨w.heap.size, 0, none⟩ = some (.int .i64 (m : Int)) := HG1.out.cell 0
 have a1 : w1.cell? ⟨w.heap.size, 1, none⟩ = some (.int .i64 (n : Int)) := HG1.out.cell 1
 have a2 : w1.cell? ⟨w.heap.size, 2, none⟩ = some (.int .i64 gs) := HG1.out.cell 2
 have a3 : w1.cell? ⟨w.heap.size, 3, none⟩ = some (.slice A rs.length c) := HG1.out.cell 3
 have zG : w.heap.size < w1.heap.size := HG1.out.lt
 clear hb1
 go_wp2_with fail
 refine (find_any ⟨(m : Int), (n : Int), gs, rs⟩ m n A c S w1 rfl rfl HC.out hlc hc (HA.out.belowB HB1.out HS.out) (fun b hb => by have := HS.out b hb; have := HB1.out.size; omega)).mono ?_
 rintro e w2 hret
 rcases hret with ⟨rfl, hno, hb2⟩ | ⟨v, k, i, q, l, rfl, hcf, hown, hb2⟩
 rotate_left
 ·have HB2 := Lib.hid (bthen HB1.out hb2 HB1.out.size)
  have HNo : Hid (¬ NoCyc ⟨(m : Int), (n : Int), gs, rs⟩ n) := Lib.hid (fun hno => hno k hcf.k1.1 hcf.k1.2 q (List.mem_of_getElem? hcf.rule) hcf.tab)
  obtain ⟨Al, cl, rfl, hcl1, hcl2, hcl3⟩ := hown.form
  obtain ⟨b, hb⟩ : ∃ b, Al = some ⟨b, 0, none⟩ := by
   rcases hcl3 with h | ⟨b, h, _⟩
   ·have := hcf.way.len; rw [h] at this; simp at this
   ·exact ⟨b, h⟩
  subst hb
  clear hcf hown hb2 hcl3
  go_wp2
  go_ret2
  exact .inl ⟨_, .loop HNo.out, rfl, HB2.out⟩
 have HNo := Lib.hid hno
 have HB2 := Lib.hid (bthen HB1.out hb2 HB1.out.size)
 have HG2 := Lib.hid (HG1.out.below hb2 HG1.out.lt)
 clear a0 a1 a2 a3 zG
 have a0 : w2.cell? ⟨w.heap.size, 0, none⟩ = some (.int .i64 (m : Int)) := HG2.out.cell 0
 have a1 : w2.cell? ⟨w.heap.size, 1, none⟩ = some (.int .i64 (n : Int)) := HG2.out.cell 1
 have a2 : w2.cell? ⟨w.heap.size, 2, none⟩ = some (.int .i64 gs) := HG2.out.cell 2
 have a3 : w2.cell? ⟨w.heap.size, 3, none⟩ = some (.slice A rs.length c) := HG2.out.cell 3
 have zG : w.heap.size < w2.heap.size := HG2.out.lt
 clear hno hb2
 go_upto_region 6 with (fail)
 refine wp_region_noPanic ?_
 refine wp_region_held_drew (S := (fun w' => w'.cell? ⟨w.heap.size, 0, none⟩ = some (.int .i64 (m : Int)) ∧ w'.cell? ⟨w.heap.size, 1, none⟩ = some (.int .i64 (n : Int)) ∧ w'.cell? ⟨w.heap.size, 2, none⟩ = some (.int .i64 gs) ∧ w'.cell? ⟨w.heap.size, 3, none⟩ = some (.slice A rs.length c))) (by kernel_rfl) ?hs (fun hHeld => ?bs)
 case hs => ((try dsimp only); go_keep)
 refine take_run (i := 0) (v := ?vs0) rfl (by kernel_rfl) (by kernel_rfl) (by kernel_rfl) (fun _ _ _ h => h) (by rfl) ?ys0 (by assumption) ?rs0
 case ys0 => (intro w hSw; (try dsimp only at hSw); go_simp; try with_reducible rfl)
 try simp only [Act.put, List.setIfInBounds_toArray, List.set_cons_zero, List.set_cons_succ]
 refine take_run (i := 2) (v := ?vs2) rfl (by kernel_rfl) (by kernel_rfl) (by kernel_rfl) (fun _ _ _ h => h) (by rfl) ?ys2 (by assumption) ?rs2
 case ys2 => (intro w hSw; (try dsimp only at hSw); go_simp; try with_reducible rfl)
 try simp only [Act.put, List.setIfInBounds_toArray, List.set_cons_zero, List.set_cons_succ]
 refine take_run (i := 3) (v := ?vs3) rfl (by kernel_rfl) (by kernel_rfl) (by kernel_rfl) (fun _ _ _ h => h) (by rfl) ?ys3 (by assumption) ?rs3
 case ys3 => (intro w hSw; (try dsimp only at hSw); go_simp; try with_reducible rfl)
 try simp only [Act.put, List.setIfInBounds_toArray, List.set_cons_zero, List.set_cons_succ]
 refine take_call (i := 1) rfl (by kernel_rfl) (by rfl) (fun Kq hK => ?_)
 go_simp
 refine hK.out _ _ ?hs1 (fun hHeld => ?rs1)
 case hs1 => ((try dsimp only); go_keep)
 clear hK Kq
 try simp only [Act.put, List.setIfInBounds_toArray, List.set_cons_zero, List.set_cons_succ]
 refine take_call (i := 4) rfl (by kernel_rfl) (by rfl) (fun Kq hK => ?_)
 go_simp
 go_at_call 72
 refine (repeat_any w2.heap.size 0 n _ HN.out.1 HN.out.2 ?hrep).mono ?_
 case hrep => exact (Blk'.new w2.drew 3 #[.int .i64 (-1)]).cell 0
 rintro e w4 ⟨gT, rfl, hT, hgT, hb4⟩
 have hb24 : Below w2.heap.size w2 w4 := bundrew (bthen ((Below.refl _ w2.drew).alloc (Nat.le_refl _) _) hb4 (by show w2.heap.size ≤ (w2.drew.alloc _).heap.size; simp))
 have hgT2 : w2.heap.size < gT := by have h : (w2.drew.alloc _).heap.size ≤ gT := hgT; simp at h; omega
 have n0 := (hb24.cell (p := ⟨w.heap.size, 0, none⟩) zG).trans a0
 have n1 := (hb24.cell (p := ⟨w.heap.size, 1, none⟩) zG).trans a1
 have n2 := (hb24.cell (p := ⟨w.heap.size, 2, none⟩) zG).trans a2
 have n3 := (hb24.cell (p := ⟨w.heap.size, 3, none⟩) zG).trans a3
 obtain ⟨w5, hw5⟩ : ∃ w5 : World, w5 = w4.alloc (.cells #[.int .i64 (m : Int), .int .i64 (n : Int), .int .i64 gs, .slice A rs.length c, .int .i64 0, .int .i64 0, .int .i64 0, .slice none 0 0, .slice (some ⟨gT, 0, none⟩) n n, .slice none 0 0] 79) := ⟨_, rfl⟩
 have hb45 : Below w4.heap.size w4 w5 := by rw [hw5]; exact (Below.refl _ _).alloc (Nat.le_refl _) _
 have HP5 : Hid (Blk' w5 w4.heap.size 79 #[.int .i64 (m : Int), .int .i64 (n : Int), .int .i64 gs, .slice A rs.length c, .int .i64 0, .int .i64 0, .int .i64 0, .slice none 0 0, .slice (some ⟨gT, 0, none⟩) n n, .slice none 0 0]) := Lib.hid (by rw [hw5]; exact Blk'.new w4 _ _)
 have HT5 := Lib.hid (hT.below hb45 hT.lt)
 have HG5 := Lib.hid ((HG2.out.below hb24 HG2.out.lt).below hb45 (by have := hb24.size; have := HG2.out.lt; omega))
 have HB25 := Lib.hid (bthen hb24 hb45 hb24.size)
 have HW5 := Lib.hid hw5
 have HZT := Lib.hid (And.intro hgT2 hT.lt)
 clear hb24 hb45 hw5 hT hgT hgT2 hb4
 refine hK.out _ _ ?hs4 (fun hHeld => ?rs4)
 case hs4 => ((try dsimp only); go_keep)
 clear hK Kq
 try simp only [Act.put, List.setIfInBounds_toArray, List.set_cons_zero, List.set_cons_succ]
 refine take_run (i := 5) (v := ?vs5) rfl (by kernel_rfl) (by kernel_rfl) (by kernel_rfl) (fun _ _ _ h => h) (by rfl) ?ys5 (by assumption) ?rs5
 case ys5 => (intro w hSw; (try dsimp only at hSw); go_simp; try with_reducible rfl)
 try simp only [Act.put, List.setIfInBounds_toArray, List.set_cons_zero, List.set_cons_succ]
 refine take_call (i := 6) rfl (by kernel_rfl) (by rfl) (fun Kq hK => ?_)
 go_simp
 refine hK.out _ _ ?hs6 (fun hHeld => ?rs6)
 case hs6 => ((try dsimp only); go_keep)
 clear hK Kq
 try simp only [Act.put, List.setIfInBounds_toArray, List.set_cons_zero, List.set_cons_succ]
 refine take_run (i := 7) (v := ?vs7) rfl (by kernel_rfl) (by kernel_rfl) (by kernel_rfl) (fun _ _ _ h => h) (by rfl) ?ys7 (by assumption) ?rs7
 case ys7 => (intro w hSw; (try dsimp only at hSw); go_simp; try with_reducible rfl)
 try simp only [Act.put, List.setIfInBounds_toArray, List.set_cons_zero, List.set_cons_succ]
 refine wpAnyH_done (by kernel_rfl) ?_ _
 refine NoPanic.normal ?_
 rw [← HW5.out]
 have HB5 := Lib.hid (bthen HB2.out HB25.out HB2.out.size)
 clear a0 a1 a2 a3 zG n0 n1 n2 n3
 have a0 : w5.cell? ⟨w.heap.size, 0, none⟩ = some (.int .i64 (m : Int)) := HG5.out.cell 0
 have a1 : w5.cell? ⟨w.heap.size, 1, none⟩ = some (.int .i64 (n : Int)) := HG5.out.cell 1
 have a2 : w5.cell? ⟨w.heap.size, 2, none⟩ = some (.int .i64 gs) := HG5.out.cell 2
 have a3 : w5.cell? ⟨w.heap.size, 3, none⟩ = some (.slice A rs.length c) := HG5.out.cell 3
 have zG : w.heap.size < w5.heap.size := HG5.out.lt
 go_wp2_with fail
 clear a0 a1 a2 a3 zG
 obtain ⟨P, hP⟩ : ∃ P : Nat, P = w4.heap.size := ⟨_, rfl⟩
 rw [← hP] at HP5
 rw [← hP]
 have HPz : Hid (w.heap.size < gT ∧ gT < P ∧ P < w5.heap.size) := Lib.hid ⟨by have := HB2.out.size; have := HZT.out.1; omega, by have := HZT.out.2; omega, HP5.out.lt⟩
 clear hP HZT HW5
 go_loopw [6, 33] (fun nx i wr => LfL ⟨(m : Int), (n : Int), gs, rs⟩ n P gT (#[.int .i64 (m : Int), .int .i64 (n : Int), .int .i64 gs, .slice A rs.length c, .int .i64 0, .int .i64 0, .int .i64 0, .slice none 0 0, .slice (some ⟨gT, 0, none⟩) n n, .slice none 0 0]) (#[.int .i64 (m : Int), .int .i64 (n : Int), .int .i64 gs, .slice A rs.length c]) w nx i wr) (fun _ i _ => n - (intOf i).toNat)
 case atStart => exact ⟨0, Nat.zero_le _, rfl, rfl, HP5.out, by rw [tailsL_zero]; exact HT5.out, HG5.out, HB5.out⟩
 case round =>
  obtain ⟨wo, hwo⟩ : ∃ wo : World, wo = wr := ⟨_, rfl⟩
  subst hwo
  obtain ⟨k, hk, rfl, rfl, hPo, hTo, hGo, hBo⟩ := hrel
  have HPo := Lib.hid hPo
  have HTo := Lib.hid hTo
  have HGo := Lib.hid hGo
  have HBo := Lib.hid hBo
  clear hPo hTo hGo hBo
  obtain ⟨K, hK⟩ : ∃ K : Nat, K = n + cntRec ⟨(m : Int), (n : Int), gs, rs⟩ k := ⟨_, rfl⟩
  rw [← hK]
  have hK20 : K ≤ 20 := by have := cntRec_le ⟨(m : Int), (n : Int), gs, rs⟩ k; omega
  have HK := Lib.hid hK
  clear hK
  by_cases hkn : k < n
  ·have d0 : ((k : Int) < (n : Int)) := by omega
   obtain ⟨w6, hw6⟩ : ∃ w6 : World, w6 = wo.alloc (.cells #[.int .i64 (k : Int)] 3) := ⟨_, rfl⟩
   have HW6 := Lib.hid hw6
   have hb6 : Below wo.heap.size wo w6 := by rw [hw6]; exact (Below.refl _ _).alloc (Nat.le_refl _) _
   have HB6 := Lib.hid hb6
   have HX6 : Hid (Blk' w6 wo.heap.size 3 #[.int .i64 (k : Int)]) := Lib.hid (by rw [hw6]; exact Blk'.new wo _ _)
   have HG6 := Lib.hid (HGo.out.below hb6 HGo.out.lt)
   have a3 : w6.cell? ⟨w.heap.size, 3, none⟩ = some (.slice A rs.length c) := HG6.out.cell 3
   have zG : w.heap.size < w6.heap.size := HG6.out.lt
   have hrl9 : rs.length ≤ 9223372036854775807 := by omega
   clear hw6 hb6
   go_upto_region 11 with (fail)
   rw [← HW6.out]
   go_wp2_with fail
   refine (contRule_any A c rs S w6 _ (.pointer (some ⟨wo.heap.size, 0, none⟩)) (fun r => decide (r.left = (k : Int)) && recB r) hrl9 (HA.out.belowB (bthen HBo.out HB6.out HBo.out.size) HS.out) leftC_go (fun x W hx hb A' c' h1 h2 h3 => leftC_any x k wo.heap.size A' c' S W ((hb.cell (p := ⟨wo.heap.size, 0, none⟩) HX6.out.lt).trans (HX6.out.cell 0)) h1 h2 h3)).mono ?_
   rintro e w7 ⟨rfl, hb7⟩
   obtain ⟨bo, hbo⟩ : ∃ bo : Bool, bo = hasRec ⟨(m : Int), (n : Int), gs, rs⟩ k := ⟨_, rfl⟩
   rw [show (rs.any fun r => decide (r.left = (k : Int)) && recB r) = bo from hbo.symm]
   have HBO := Lib.hid hbo
   have HB7 := Lib.hid (bthen HB6.out hb7 HB6.out.size)
   have HX7 := Lib.hid (HX6.out.below hb7 HX6.out.lt)
   have HP7 := Lib.hid (HPo.out.below HB7.out HPo.out.lt)
   have HT7 := Lib.hid (HTo.out.below HB7.out HTo.out.lt)
   have HG7 := Lib.hid (HGo.out.below HB7.out HGo.out.lt)
   have HB07 := Lib.hid (bthen HBo.out HB7.out HBo.out.size)
   clear hbo hb7 a3 zG
   cases bo
   case false =>
    go_wp2_with fail
    go_roundw
    case rel => exact ⟨k + 1, hkn, by rw [cntRec_miss HBO.out.symm, HK.out], by go_num, HP7.out, by rw [← tailsL_miss hkn HBO.out.symm]; exact HT7.out, HG7.out, HB07.out⟩
    case measure => simp [intOf]; omega
   case true =>
    have p8 : w7.cell? ⟨P, 8, none⟩ = some (.slice (some ⟨gT, 0, none⟩) n n) := HP7.out.cell 8
    have x0 : w7.cell? ⟨wo.heap.size, 0, none⟩ = some (.int .i64 (k : Int)) := HX7.out.cell 0
    have tk : w7.cell? ⟨gT, k, none⟩ = some (.int .i64 (-1)) := by
     rw [HT7.out.cell k]
     exact icells_get (by rw [tailsL_get hkn hk, if_neg (Nat.lt_irrefl _)])
    have fT := HT7.out.frozen k
    have zP : P < w7.heap.size := HP7.out.lt
    have zT : gT < w7.heap.size := HT7.out.lt
    have zX : wo.heap.size < w7.heap.size := HX7.out.lt
    have ne1 : ¬ P = gT := by have := HPz.out; omega
    have ne2 : ¬ wo.heap.size = gT := by have := HTo.out.lt; omega
    have ne3 : ¬ gT = P := by omega
    have ne4 : ¬ gT = wo.heap.size := by omega
    have k0 : (0 : Int) ≤ (k : Int) := by omega
    have hwK : IntKind.i64.wrap ((K : Int) + 1) = ((K + 1 : Nat) : Int) := by rw [IntWalk.i64_in _ (by omega)]; omega
    go_wp2_with fail
    refine wp_region_noPanic ?_
    refine wp_region_held_drew (S := (fun w' => w'.cell? ⟨P, 8, none⟩ = some (.slice (some ⟨gT, 0, none⟩) n n) ∧ w'.cell? ⟨wo.heap.size, 0, none⟩ = some (.int .i64 (k : Int)))) (by kernel_rfl) ?hk (fun hHeld => ?bk)
    case hk => ((try dsimp only); go_keep)
    refine take_run (i := 0) (v := ?vk0) rfl (by kernel_rfl) (by kernel_rfl) (by kernel_rfl) (fun _ _ _ h => h) (by rfl) ?yk0 (by assumption) ?rk0
    case yk0 => (intro w hSw; (try dsimp only at hSw); go_simp; try with_reducible rfl)
    try simp only [Act.put, List.setIfInBounds_toArray, List.set_cons_zero, List.set_cons_succ]
    refine take_run (i := 1) (v := ?vk1) rfl (by kernel_rfl) (by kernel_rfl) (by kernel_rfl) (fun _ _ _ h => h) (by rfl) ?yk1 (by assumption) ?rk1
    case yk1 => (intro w hSw; (try dsimp only at hSw); go_simp; try with_reducible rfl)
    try simp only [Act.put, List.setIfInBounds_toArray, List.set_cons_zero, List.set_cons_succ]
    refine take_run (i := 2) (v := ?vk2) rfl (by kernel_rfl) (by kernel_rfl) (by kernel_rfl) (fun _ _ _ h => h) (by rfl) ?yk2 (by assumption) ?rk2
    case yk2 => (intro w hSw; (try dsimp only at hSw); go_simp; try with_reducible rfl)
    try simp only [Act.put, List.setIfInBounds_toArray, List.set_cons_zero, List.set_cons_succ]
    refine take_run (i := 3) (v := ?vk3) rfl (by kernel_rfl) (by kernel_rfl) (by kernel_rfl) (fun _ _ _ h => h) (by rfl) ?yk3 (by assumption) ?rk3
    case yk3 => (intro w hSw; (try dsimp only at hSw); go_simp; try with_reducible rfl)
    try simp only [Act.put, List.setIfInBounds_toArray, List.set_cons_zero, List.set_cons_succ]
    refine take_run (i := 4) (v := ?vk4) rfl (by kernel_rfl) (by kernel_rfl) (by kernel_rfl) (fun _ _ _ h => h) (by rfl) ?yk4 (by assumption) ?rk4
    case yk4 => (intro w hSw; (try dsimp only at hSw); go_simp; try with_reducible rfl)
    try simp only [Act.put, List.setIfInBounds_toArray, List.set_cons_zero, List.set_cons_succ]
    refine take_run (i := 5) (v := ?vk5) rfl (by kernel_rfl) (by kernel_rfl) (by kernel_rfl) (fun _ _ _ h => h) (by rfl) ?yk5 (by assumption) ?rk5
    case yk5 => (intro w hSw; (try dsimp only at hSw); go_simp; try with_reducible rfl)
    try simp only [Act.put, List.setIfInBounds_toArray, List.set_cons_zero, List.set_cons_succ]
    refine take_run (i := 6) (v := ?vk6) rfl (by kernel_rfl) (by kernel_rfl) (by kernel_rfl) (fun _ _ _ h => h) (by rfl) ?yk6 (by assumption) ?rk6
    case yk6 => (intro w hSw; (try dsimp only at hSw); go_simp; try with_reducible rfl)
    try simp only [Act.put, List.setIfInBounds_toArray, List.set_cons_zero, List.set_cons_succ]
    refine take_call (i := 7) rfl (by kernel_rfl) (by rfl) (fun Kq hK => ?_)
    go_simp
    refine hK.out _ _ ?hk7 (fun hHeld => ?rk7)
    case hk7 => ((try dsimp only); go_keep)
    clear hK Kq
    try simp only [Act.put, List.setIfInBounds_toArray, List.set_cons_zero, List.set_cons_succ]
    refine wpAnyH_done (by kernel_rfl) ?_ _
    refine NoPanic.normal ?_
    go_wp2_with fail
    go_roundw
    case rel =>
     have hset := HT7.out.set_ k (.int .i64 (K : Int))
     rw [icells_set, HK.out, tailsL_hit hkn HBO.out.symm] at hset
     refine ⟨k + 1, hkn, by rw [cntRec_hit HBO.out.symm, HK.out]; rfl, by go_num, HP7.out.far (p := ⟨gT, k, none⟩) ne1 _, by rw [HK.out]; exact hset, HG7.out.far (p := ⟨gT, k, none⟩) (by have := HPz.out; show ¬ w.heap.size = gT; omega) _, (HB07.out.setCell (p := ⟨gT, k, none⟩) (by have := HPz.out; show w.heap.size ≤ gT; omega) _).drew⟩
    case measure => simp [intOf]; omega
  ·have d0 : ¬ ((k : Int) < (n : Int)) := by omega
   have hkn' : k = n := by omega
   have HKn := Lib.hid hkn'
   by_cases hlg : 10 < K
   ·have d1 : decide ((K : Int) > 10) = true := decide_eq_true (by omega)
    go_wp2
    go_ret2
    exact .inl ⟨_, .large HNo.out (by have := HK.out; rw [HKn.out] at this; omega), rfl, HBo.out⟩
   ·have d1 : decide ((K : Int) > 10) = false := decide_eq_false (by omega)
    have HK10 := Lib.hid (show K ≤ 10 by omega)
    clear hlg
    obtain rfl : n = k := hkn'.symm
    obtain ⟨w8, hw8⟩ : ∃ w8 : World, w8 = (((wo.setCell ⟨P, 4, none⟩ (.int .i64 (m : Int))).setCell ⟨P, 5, none⟩ (.int .i64 (K : Int))).setCell ⟨P, 6, none⟩ (.int .i64 gs)).setCell ⟨P, 7, none⟩ (.slice none 0 0) := ⟨_, rfl⟩
    have HW8 := Lib.hid hw8
    have HP8 : Hid (Blk' w8 P 79 ((fun v1 v2 => #[.int .i64 (m : Int), .int .i64 (n : Int), .int .i64 gs, .slice A rs.length c, .int .i64 (m : Int), .int .i64 (K : Int), .int .i64 gs, v1, .slice (some ⟨gT, 0, none⟩) n n, v2]) (.slice none 0 0) (.slice none 0 0))) := Lib.hid (by rw [hw8]; exact (((HPo.out.set_ 4 _).set_ 5 _).set_ 6 _).set_ 7 _)
    have HKp : Hid (Kept (fun b => b = P) wo w8) := Lib.hid (by rw [hw8]; exact ((((Kept.refl (fun b => b = P) wo).setCell (p := ⟨P, 4, none⟩) (.inl rfl) _).setCell (p := ⟨P, 5, none⟩) (.inl rfl) _).setCell (p := ⟨P, 6, none⟩) (.inl rfl) _).setCell (p := ⟨P, 7, none⟩) (.inl rfl) _)
    have HT8 := Lib.hid (HTo.out.kept HKp.out (by have := HPz.out; omega))
    have HG8 := Lib.hid (HGo.out.kept HKp.out (by have := HPz.out; omega))
    have HB8 := Lib.hid (HBo.out.trans (HKp.out.to_below (B := w.heap.size) (fun b (hb : b = P) => by have := HPz.out; omega) HBo.out.size))
    have a0 : wo.cell? ⟨w.heap.size, 0, none⟩ = some (.int .i64 (m : Int)) := HGo.out.cell 0
    have a1 : wo.cell? ⟨w.heap.size, 1, none⟩ = some (.int .i64 (n : Int)) := HGo.out.cell 1
    have a2 : wo.cell? ⟨w.heap.size, 2, none⟩ = some (.int .i64 gs) := HGo.out.cell 2
    have a3 : wo.cell? ⟨w.heap.size, 3, none⟩ = some (.slice A rs.length c) := HGo.out.cell 3
    have p4 : wo.cell? ⟨P, 4, none⟩ = some (.int .i64 0) := HPo.out.cell 4
    have p5 : wo.cell? ⟨P, 5, none⟩ = some (.int .i64 0) := HPo.out.cell 5
    have p6 : wo.cell? ⟨P, 6, none⟩ = some (.int .i64 0) := HPo.out.cell 6
    have p7 : wo.cell? ⟨P, 7, none⟩ = some (.slice none 0 0) := HPo.out.cell 7
    have f4 := HPo.out.frozen 4
    have f5 := HPo.out.frozen 5
    have f6 := HPo.out.frozen 6
    have f7 := HPo.out.frozen 7
    have zP : P < wo.heap.size := HPo.out.lt
    have zG : w.heap.size < wo.heap.size := HGo.out.lt
    clear hw8
    go_upto_region 18 with (fail)
    rw [← HW8.out]
    clear a0 a1 a2 a3 p4 p5 p6 p7 f4 f5 f6 f7 zP zG
    have a3 : w8.cell? ⟨w.heap.size, 3, none⟩ = some (.slice A rs.length c) := HG8.out.cell 3
    have zG : w.heap.size < w8.heap.size := HG8.out.lt
    clear HW8 HKp
    go_wp2_with fail
    clear a3 zG
    go_loopw [64] (fun i wr => LfR ⟨(m : Int), (n : Int), gs, rs⟩ n w w8.heap.size (LfQ P gT (fun v1 v2 => #[.int .i64 (m : Int), .int .i64 (n : Int), .int .i64 gs, .slice A rs.length c, .int .i64 (m : Int), .int .i64 (K : Int), .int .i64 gs, v1, .slice (some ⟨gT, 0, none⟩) n n, v2]) (icells (tailsL ⟨(m : Int), (n : Int), gs, rs⟩ n n)) (#[.int .i64 (m : Int), .int .i64 (n : Int), .int .i64 gs, .slice A rs.length c]) w.heap.size) i wr) (fun i _ => rs.length - (intOf i).toNat)
    case atStart => exact ⟨0, _, _, Nat.zero_le _, rfl, Two.nil _ _ _ _ _, ⟨HP8.out, HT8.out, HG8.out⟩, HB8.out, Nat.le_refl _⟩
    case round =>
     clear HPo HTo HGo HBo d0 hk d1
     obtain ⟨wo, hwo⟩ : ∃ wo : World, wo = wr := ⟨_, rfl⟩
     subst hwo
     obtain ⟨j, v1, v2, hj, rfl, htwo, ⟨hP, hT, hG⟩, hBo, hB8o⟩ := hrel
     dsimp only at hP
     have H2 := Lib.hid htwo
     have HPo := Lib.hid hP
     have HTo := Lib.hid hT
     have HGo := Lib.hid hG
     have HBo := Lib.hid hBo
     have HZo := Lib.hid hB8o
     clear htwo hP hT hG hBo hB8o
     by_cases hjn : j < rs.length
     ·obtain ⟨q, hq⟩ := get_some hjn
      obtain ⟨bq, oq, Aq, cq, eA, hSb, hbs, hqi, hrc, hcr, hEr, hc0, hc1⟩ := (HA.out.belowB HBo.out HS.out).rule hq
      subst eA
      have hql := HV.out.rules q (List.mem_of_getElem? hq)
      have HQ := Lib.hid hq
      obtain ⟨ql, qr⟩ := q
      dsimp only at hqi hrc hcr hEr hc0 hc1 hql
      obtain ⟨z, rfl⟩ : ∃ z : Nat, ql = (z : Int) := ⟨ql.toNat, by omega⟩
      have hzn : z < n := by omega
      have hqr4 : qr.length ≤ 4 := hql.2.2.1
      have HQl := Lib.hid hql
      obtain ⟨w9, hw9⟩ : ∃ w9 : World, w9 = wo.alloc (.cells #[.int .i64 (z : Int), .slice Aq qr.length cq] 60) := ⟨_, rfl⟩
      have HW9 := Lib.hid hw9
      have hb9 : Below wo.heap.size wo w9 := by rw [hw9]; exact (Below.refl _ _).alloc (Nat.le_refl _) _
      have hX9 : Blk' w9 wo.heap.size 60 #[.int .i64 (z : Int), .slice Aq qr.length cq] := by rw [hw9]; exact Blk'.new wo _ _
      have HB9 := Lib.hid hb9
      have HX9 := Lib.hid hX9
      have HE9 := Lib.hid (hEr.below hb9)
      have HEo := Lib.hid hEr
      have x0 : w9.cell? ⟨wo.heap.size, 0, none⟩ = some (.int .i64 (z : Int)) := hX9.cell 0
      have x1 : w9.cell? ⟨wo.heap.size, 1, none⟩ = some (.slice Aq qr.length cq) := hX9.cell 1
      have zX : wo.heap.size < w9.heap.size := hX9.lt
      have hj0 : (0 : Int) ≤ (j : Int) := by omega
      have hj1 : (j : Int) < (rs.length : Int) := by omega
      have HQi := Lib.hid (And.intro hqi (And.intro hrc hcr))
      clear hw9 hb9 hX9 hEr hql hSb hq hqi hrc hcr
      go_upto_region 21 with (fail)
      rw [← HW9.out]
      clear hc0 hc1
      go_cut [10] (fun v wx => ∃ (Y : Nat) (ao : Option Addr) (cap zb ze : Nat), v = .pointer (some ⟨Y, 0, none⟩) ∧ Blk' wx Y 60 #[.int .i64 (z : Int), .slice ao qr.length cap] ∧ CameS wx zb ze qr ao cap ∧ (Y < zb ∨ ze ≤ Y) ∧ wo.heap.size < Y ∧ (wo.heap.size < zb ∧ zb ≤ ze) ∧ ze ≤ wx.heap.size ∧ Below wo.heap.size wo wx ∧ Blk' wx wo.heap.size 60 #[.int .i64 (z : Int), .slice Aq qr.length cq])
      case first =>
       refine wp_region_noPanic ?_
       refine wp_region_held_drew (S := (fun w' => w'.cell? ⟨wo.heap.size, 0, none⟩ = some (.int .i64 (z : Int)) ∧ w'.cell? ⟨wo.heap.size, 1, none⟩ = some (.slice Aq qr.length cq))) (by kernel_rfl) ?hc (fun hHeld => ?bc)
       case hc => ((try dsimp only); go_keep)
       refine take_run (i := 0) (v := ?vc0) rfl (by kernel_rfl) (by kernel_rfl) (by kernel_rfl) (fun _ _ _ h => h) (by rfl) ?yc0 (by assumption) ?rc0
       case yc0 => (intro w hSw; (try dsimp only at hSw); go_simp; try with_reducible rfl)
       try simp only [Act.put, List.setIfInBounds_toArray, List.set_cons_zero, List.set_cons_succ]
       refine take_run (i := 1) (v := ?vc1) rfl (by kernel_rfl) (by kernel_rfl) (by kernel_rfl) (fun _ _ _ h => h) (by rfl) ?yc1 (by assumption) ?rc1
       case yc1 => (intro w hSw; (try dsimp only at hSw); go_simp; try with_reducible rfl)
       try simp only [Act.put, List.setIfInBounds_toArray, List.set_cons_zero, List.set_cons_succ]
       refine take_run (i := 2) (v := ?vc2) rfl (by kernel_rfl) (by kernel_rfl) (by kernel_rfl) (fun _ _ _ h => h) (by rfl) ?yc2 (by assumption) ?rc2
       case yc2 => (intro w hSw; (try dsimp only at hSw); go_simp; try with_reducible rfl)
       try simp only [Act.put, List.setIfInBounds_toArray, List.set_cons_zero, List.set_cons_succ]
       refine take_run (i := 3) (v := ?vc3) rfl (by kernel_rfl) (by kernel_rfl) (by kernel_rfl) (fun _ _ _ h => h) (by rfl) ?yc3 (by assumption) ?rc3
       case yc3 => (intro w hSw; (try dsimp only at hSw); go_simp; try with_reducible rfl)
       try simp only [Act.put, List.setIfInBounds_toArray, List.set_cons_zero, List.set_cons_succ]
       refine take_two (i := 4) (j := 6) rfl rfl (by kernel_rfl) (by rfl) (by rfl) (fun Kq hK => ?onec4) (fun Kq hK => ?twoc4)
       case onec4 =>
        go_simp
        go_at_call 76
        refine (cloneSymO_any qr Aq cq _ S _ rfl (by omega) (HE9.out.below (Below.refl _ _).drew) (fun b hb => by have h1 := HS.out b hb; have := HBo.out.size; have := HB9.out.size; show b < w9.heap.size; omega)).mono ?_
        rintro e w10 ⟨A6, c6, rfl, h61, h62, hown6, hb10⟩
        have HB10 := Lib.hid (bundrew hb10)
        have n0 := (HB10.out.cell (p := ⟨wo.heap.size, 0, none⟩) zX).trans x0
        have n1 := (HB10.out.cell (p := ⟨wo.heap.size, 1, none⟩) zX).trans x1
        obtain ⟨ao, cap, ev, hcame⟩ := CameS.of_own hown6
        injection ev with ev1 _ ev2
        subst ev1; subst ev2
        have HCm := Lib.hid hcame
        clear hb10 hown6 hcame
        refine hK.out _ _ ?hca4 (fun hHeld => ?rca4)
        case hca4 => ((try dsimp only); go_keep)
        clear hK Kq
        try simp only [Act.put, List.setIfInBounds_toArray, List.set_cons_zero, List.set_cons_succ]
        refine take_run (i := 5) (v := ?vca5) rfl (by kernel_rfl) (by kernel_rfl) (by kernel_rfl) (fun _ _ _ h => h) (by rfl) ?yca5 (by assumption) ?rca5
        case yca5 => (intro w hSw; (try dsimp only at hSw); go_simp; try with_reducible rfl)
        try simp only [Act.put, List.setIfInBounds_toArray, List.set_cons_zero, List.set_cons_succ]
        refine take_call (i := 6) rfl (by kernel_rfl) (by rfl) (fun Kq hK => ?_)
        go_simp
        refine hK.out _ _ ?hca6 (fun hHeld => ?rca6)
        case hca6 => ((try dsimp only); go_keep)
        clear hK Kq
        try simp only [Act.put, List.setIfInBounds_toArray, List.set_cons_zero, List.set_cons_succ]
        refine take_call (i := 7) rfl (by kernel_rfl) (by rfl) (fun Kq hK => ?_)
        go_simp
        refine hK.out _ _ ?hca7 (fun hHeld => ?rca7)
        case hca7 => ((try dsimp only); go_keep)
        clear hK Kq
        try simp only [Act.put, List.setIfInBounds_toArray, List.set_cons_zero, List.set_cons_succ]
        refine wpAnyH_done (by kernel_rfl) ?_ _
        refine NoPanic.normal ?_
        go_wp2
        go_meet
        exact ⟨w10.heap.size, _, c6, w9.heap.size, w10.heap.size, rfl, Blk'.new w10 _ _, (HCm.out.below ((Below.refl _ _).alloc (Nat.le_refl _) _)), .inr (Nat.le_refl _), by have := HB9.out.size; have := HB10.out.size; omega, ⟨zX, HB10.out.size⟩, by simp, bthen HB9.out (HB10.out.alloc HB10.out.size _) HB9.out.size, (Blk'.below HX9.out HB10.out zX).alloc _⟩
       case twoc4 =>
        go_simp
        refine hK.out _ _ ?hcb6 (fun hHeld => ?rcb6)
        case hcb6 => ((try dsimp only); go_keep)
        clear hK Kq
        try simp only [Act.put, List.setIfInBounds_toArray, List.set_cons_zero, List.set_cons_succ]
        refine take_call (i := 4) rfl (by kernel_rfl) (by rfl) (fun Kq hK => ?_)
        go_simp
        go_at_call 76
        refine (cloneSymO_any qr Aq cq _ S _ rfl (by omega) (HE9.out.below ((Below.refl _ _).drew.alloc (Nat.le_refl _) _)) (fun b hb => by have h1 := HS.out b hb; have := HBo.out.size; have := HB9.out.size; show b < (w9.drew.alloc _).heap.size; simp; omega)).mono ?_
        rintro e w10 ⟨A6, c6, rfl, h61, h62, hown6, hb10⟩
        have HB10 := Lib.hid (bthen (((Below.refl w9.heap.size w9.drew).alloc (Nat.le_refl _) _)) hb10 (by show w9.heap.size ≤ (w9.drew.alloc _).heap.size; simp) |> bundrew)
        have n0 := (HB10.out.cell (p := ⟨wo.heap.size, 0, none⟩) zX).trans x0
        have n1 := (HB10.out.cell (p := ⟨wo.heap.size, 1, none⟩) zX).trans x1
        obtain ⟨ao, cap, ev, hcame⟩ := CameS.of_own hown6
        injection ev with ev1 _ ev2
        subst ev1; subst ev2
        have HCm := Lib.hid hcame
        have HY10 := Lib.hid ((Blk'.new w9.drew 60 #[.int .i64 0, .slice none 0 0]).below hb10 (by simp))
        have y0 : w10.cell? ⟨w9.heap.size, 0, none⟩ = some (.int .i64 0) := HY10.out.cell 0
        have y1 : w10.cell? ⟨w9.heap.size, 1, none⟩ = some (.slice none 0 0) := HY10.out.cell 1
        have fy0 : w10.frozen? ⟨w9.heap.size, 0, none⟩ = false := HY10.out.frozen 0
        have fy1 : w10.frozen? ⟨w9.heap.size, 1, none⟩ = false := HY10.out.frozen 1
        have zY : w9.heap.size < w10.heap.size := HY10.out.lt
        have neY : ¬ w9.heap.size = wo.heap.size := by omega
        clear hb10 hown6 hcame
        refine hK.out _ _ ?hcb4 (fun hHeld => ?rcb4)
        case hcb4 => ((try dsimp only); go_keep)
        clear hK Kq
        try simp only [Act.put, List.setIfInBounds_toArray, List.set_cons_zero, List.set_cons_succ]
        refine take_run (i := 5) (v := ?vcb5) rfl (by kernel_rfl) (by kernel_rfl) (by kernel_rfl) (fun _ _ _ h => h) (by rfl) ?ycb5 (by assumption) ?rcb5
        case ycb5 => (intro w hSw; (try dsimp only at hSw); go_simp; try with_reducible rfl)
        try simp only [Act.put, List.setIfInBounds_toArray, List.set_cons_zero, List.set_cons_succ]
        refine take_call (i := 7) rfl (by kernel_rfl) (by rfl) (fun Kq hK => ?_)
        go_simp
        refine hK.out _ _ ?hcb7 (fun hHeld => ?rcb7)
        case hcb7 => ((try dsimp only); go_keep)
        clear hK Kq
        try simp only [Act.put, List.setIfInBounds_toArray, List.set_cons_zero, List.set_cons_succ]
        refine wpAnyH_done (by kernel_rfl) ?_ _
        refine NoPanic.normal ?_
        go_wp2
        go_meet
        have hkY : Kept (fun b => b = w9.heap.size) w10 ((w10.setCell ⟨w9.heap.size, 0, none⟩ (.int .i64 (z : Int))).setCell ⟨w9.heap.size, 1, none⟩ (.slice A6 qr.length c6)) := ((Kept.refl (fun b => b = w9.heap.size) w10).setCell (p := ⟨w9.heap.size, 0, none⟩) (.inl rfl) _).setCell (p := ⟨w9.heap.size, 1, none⟩) (.inl rfl) _
        have hcm : CameS w10 (w9.heap.size + 1) w10.heap.size qr A6 c6 := by have h := HCm.out; simpa using h
        refine ⟨w9.heap.size, _, c6, w9.heap.size + 1, w10.heap.size, rfl, (HY10.out.set_ 0 _).set_ 1 _, hcm.kept hkY (fun b h1 h2 h3 => by omega), .inl (by omega), zX, ⟨by omega, zY⟩, hkY.size, ?_, (HX9.out.below HB10.out zX).kept hkY (by omega)⟩
        exact ((bthen HB9.out HB10.out HB9.out.size).setCell (p := ⟨w9.heap.size, 0, none⟩) HB9.out.size _).setCell (p := ⟨w9.heap.size, 1, none⟩) HB9.out.size _
      case rest =>
      obtain ⟨Y, ao, cap, zb, ze, rfl, hY, hcm, hYz, hYo, hzb, hze, hb11, hX11⟩ := hcut
      obtain ⟨w11, hw11⟩ : ∃ w11 : World, w11 = wc := ⟨_, rfl⟩
      subst hw11
      obtain ⟨tv, htv⟩ : ∃ tv : Int, tv = tailI ⟨(m : Int), (n : Int), gs, rs⟩ n z := ⟨_, rfl⟩
      have HTv := Lib.hid htv
      have htr := tailI_rng (g := ⟨(m : Int), (n : Int), gs, rs⟩) (n := n) (k := z)
      rw [← htv] at htr
      have HTr := Lib.hid (show I64 tv by unfold I64; omega)
      have HY11 := Lib.hid hY
      have HCm := Lib.hid hcm
      have HYz := Lib.hid (And.intro hYz (And.intro hYo (And.intro hzb hze)))
      have HB11 := Lib.hid hb11
      have HX11 := Lib.hid hX11
      have HP11 := Lib.hid (HPo.out.below hb11 HPo.out.lt)
      have HT11 := Lib.hid (HTo.out.below hb11 HTo.out.lt)
      have HE11 := Lib.hid (HEo.out.below hb11)
      clear x0 x1 zX hY hcm hYz hYo hzb hze hb11 hX11 htv htr HX9 HB9 HW9 HE9
      have x0 : w11.cell? ⟨wo.heap.size, 0, none⟩ = some (.int .i64 (z : Int)) := HX11.out.cell 0
      have x1 : w11.cell? ⟨wo.heap.size, 1, none⟩ = some (.slice Aq qr.length cq) := HX11.out.cell 1
      have p8 : w11.cell? ⟨P, 8, none⟩ = some (.slice (some ⟨gT, 0, none⟩) n n) := HP11.out.cell 8
      have tz : w11.cell? ⟨gT, z, none⟩ = some (.int .i64 tv) := by
       rw [HT11.out.cell z]
       exact icells_get (by rw [tailsL_get hzn (Nat.le_refl _), if_pos hzn, HTv.out])
      have zP : P < w11.heap.size := HP11.out.lt
      have zT : gT < w11.heap.size := HT11.out.lt
      have zX : wo.heap.size < w11.heap.size := HX11.out.lt
      have z0 : (0 : Int) ≤ (z : Int) := by omega
      have z1 : (z : Int) < (n : Int) := by omega
      go_upto_region 22 with (fail)
      go_quiet (fail)
      go_upto_if 84 with (fail)
      clear p8 tz zP zT z0 z1
      go_cut [] (fun wx => ∃ (l' : Int) (r' : List Sym) (A' : Option Addr) (c' : Nat), strR ⟨(m : Int), (n : Int), gs, rs⟩ n ⟨(z : Int), qr⟩ = ⟨l', r'⟩ ∧ Blk' wx Y 60 #[.int .i64 l', .slice A' r'.length c'] ∧ I64 l' ∧ r'.length ≤ c' ∧ c' ≤ 9223372036854775807 ∧ Els wx (fun b => wo.heap.size < b ∧ b < wx.heap.size) r' A' ∧ Below wo.heap.size wo wx)
      case first =>
       by_cases ht0 : tv < 0
       ·have d2 : decide (0 ≤ tv) = false := decide_eq_false (by omega)
        have d3 : ¬ 0 ≤ tv := by omega
        have HSt := Lib.hid (show strR ⟨(m : Int), (n : Int), gs, rs⟩ n ⟨(z : Int), qr⟩ = ⟨(z : Int), qr⟩ by
         unfold strR
         dsimp only
         rw [Int.toNat_natCast, ← HTv.out, if_pos ht0])
        clear ht0
        go_wp2
        go_meet
        exact ⟨_, _, _, _, HSt.out, HY11.out, HQi.out.1, HCm.out.le, HCm.out.max, HCm.out.els (fun b h1 h2 h3 => ⟨by have := HYz.out; omega, h3⟩), bdrewN HB11.out⟩
       ·have d2 : decide (0 ≤ tv) = true := decide_eq_true (by omega)
        have d3 : 0 ≤ tv := by omega
        have HSt := Lib.hid (show strR ⟨(m : Int), (n : Int), gs, rs⟩ n ⟨(z : Int), qr⟩ = if recB ⟨(z : Int), qr⟩ then ⟨tv, qr.drop 1 ++ [⟨false, tv⟩]⟩ else ⟨(z : Int), qr ++ [⟨false, tv⟩]⟩ by
         unfold strR
         dsimp only
         rw [Int.toNat_natCast, ← HTv.out, if_neg ht0])
        clear ht0
        go_wp2_with fail
        refine (recursive_any ⟨(z : Int), qr⟩ Aq cq S _ HQi.out.2.1 HQi.out.2.2 (HE11.out.below (bdrewN (Below.refl _ _)))).mono ?_
        rintro e w12 ⟨rfl, hb12'⟩
        have hb12 : Below w11.heap.size w11 w12 := bundrewN hb12'
        clear hb12'
        obtain ⟨rb, hrb⟩ : ∃ rb : Bool, rb = recB ⟨(z : Int), qr⟩ := ⟨_, rfl⟩
        rw [← hrb]
        have HRb := Lib.hid hrb
        have HB12 := Lib.hid hb12
        have HY12 := Lib.hid (HY11.out.below hb12 HY11.out.lt)
        have HCm12 := Lib.hid (HCm.out.below hb12)
        clear x0 x1 zX hrb hb12
        go_upto_if 86 with (fail)
        go_cut [] (fun wx => ∃ (l' : Int) (r' : List Sym) (A' : Option Addr) (c' : Nat), (if rb then (⟨tv, qr.drop 1⟩ : Rule) else ⟨(z : Int), qr⟩) = ⟨l', r'⟩ ∧ Blk' wx Y 60 #[.int .i64 l', .slice A' r'.length c'] ∧ I64 l' ∧ CameS wx zb ze r' A' c' ∧ Below wo.heap.size wo wx ∧ ze ≤ wx.heap.size ∧ r'.length ≤ 4)
        case first =>
         cases rb
         case false =>
          go_wp2
          go_meet
          exact ⟨_, _, _, _, rfl, HY12.out, HQi.out.1, HCm12.out, bthen HB11.out HB12.out HB11.out.size, by have := HYz.out; have := HB12.out.size; omega, hqr4⟩
         case true =>
          obtain ⟨s0, r0, hqr⟩ : ∃ s0 r0, qr = s0 :: r0 := by
           cases qr with
           | nil => have := HRb.out; simp [recB] at this
           | cons s0 r0 => exact ⟨s0, r0, rfl⟩
          subst hqr
          obtain ⟨by_, oy, rfl, hc1, hcd⟩ := HCm12.out.tail
          have HC1 := Lib.hid hc1
          have HCd := Lib.hid hcd
          have hcl := HCm12.out.le
          have hcl' : (1 : Int) ≤ (cap : Int) := by simp only [List.length_cons] at hcl; omega
          have hl1 : (1 : Int) ≤ ((s0 :: r0).length : Int) := by simp only [List.length_cons]; omega
          have hlc1 : ((s0 :: r0).length : Int) ≤ (cap : Int) := by omega
          have y1 : w12.cell? ⟨Y, 1, none⟩ = some (.slice (some ⟨by_, oy, none⟩) (s0 :: r0).length cap) := HY12.out.cell 1
          have y0 : w12.cell? ⟨Y, 0, none⟩ = some (.int .i64 (z : Int)) := HY12.out.cell 0
          have fy0 := HY12.out.frozen 0
          have fy1 := HY12.out.frozen 1
          have zY : Y < w12.heap.size := HY12.out.lt
          have hkY : ∀ v, Kept (fun b => b = Y) w12 ((w12.setCell ⟨Y, 0, none⟩ (.int .i64 tv)).setCell ⟨Y, 1, none⟩ v) := fun v => ((Kept.refl (fun b => b = Y) w12).setCell (p := ⟨Y, 0, none⟩) (.inl rfl) _).setCell (p := ⟨Y, 1, none⟩) (.inl rfl) _
          have HKY := Lib.hid hkY
          have HBY := Lib.hid (bthen HB11.out HB12.out HB11.out.size)
          clear hc1 hcd hcl hkY
          by_cases hcap : cap = 1
          ·have HCq := Lib.hid (HC1.out hcap by_ oy)
           subst hcap
           go_wp2
           go_meet
           exact ⟨tv, r0, _, _, rfl, (HY12.out.set_ 0 _).set_ 1 _, HTr.out, HCq.out.kept (HKY.out _) (fun b h1 h2 h3 => by have := HYz.out; omega), (HBY.out.setCell (p := ⟨Y, 0, none⟩) (by have := HYz.out; show wo.heap.size ≤ Y; omega) _).setCell (p := ⟨Y, 1, none⟩) (by have := HYz.out; show wo.heap.size ≤ Y; omega) _, by have := HYz.out; have := HB12.out.size; have := (HKY.out (.slice (some ⟨by_, oy, none⟩) r0.length 0)).size; omega, by simp only [List.length_cons] at hqr4; omega⟩
          ·go_wp2
           go_meet
           exact ⟨tv, r0, _, _, rfl, (HY12.out.set_ 0 _).set_ 1 _, HTr.out, HCd.out.kept (HKY.out _) (fun b h1 h2 h3 => by have := HYz.out; omega), (HBY.out.setCell (p := ⟨Y, 0, none⟩) (by have := HYz.out; show wo.heap.size ≤ Y; omega) _).setCell (p := ⟨Y, 1, none⟩) (by have := HYz.out; show wo.heap.size ≤ Y; omega) _, by have := HYz.out; have := HB12.out.size; have := (HKY.out (.slice (some ⟨by_, oy + 2, none⟩) r0.length (cap - 1))).size; omega, by simp only [List.length_cons] at hqr4; omega⟩
        case rest =>
        obtain ⟨l', r', A', c', hif, hY13, hl64, hcm13, hb13, hze13, hr4⟩ := hcut
        obtain ⟨w13, hw13⟩ : ∃ w13 : World, w13 = wc := ⟨_, rfl⟩
        subst hw13
        have HIf := Lib.hid hif
        have HY13 := Lib.hid hY13
        have HL := Lib.hid hl64
        have HCm13 := Lib.hid hcm13
        have HB13 := Lib.hid hb13
        have HZ13 := Lib.hid (And.intro hze13 hr4)
        clear hif hl64 hcm13 hb13 hze13 hr4
        have y1 : w13.cell? ⟨Y, 1, none⟩ = some (.slice A' r'.length c') := hY13.cell 1
        have y0 : w13.cell? ⟨Y, 0, none⟩ = some (.int .i64 l') := hY13.cell 0
        have zY : Y < w13.heap.size := hY13.lt
        clear hY13
        go_upto_region 26 with (fail)
        refine wp_region_noPanic ?_
        refine wp_region_held_drew (S := (fun w' => True ∧ True)) (by kernel_rfl) ?hq (fun hHeld => ?bq)
        case hq => ((try dsimp only); go_keep)
        refine take_run (i := 0) (v := ?vq0) rfl (by kernel_rfl) (by kernel_rfl) (by kernel_rfl) (fun _ _ _ h => h) (by rfl) ?yq0 (by assumption) ?rq0
        case yq0 => (intro w hSw; (try dsimp only at hSw); go_simp; try with_reducible rfl)
        try simp only [Act.put, List.setIfInBounds_toArray, List.set_cons_zero, List.set_cons_succ]
        refine take_run (i := 2) (v := ?vq2) rfl (by kernel_rfl) (by kernel_rfl) (by kernel_rfl) (fun _ _ _ h => h) (by rfl) ?yq2 (by assumption) ?rq2
        case yq2 => (intro w hSw; (try dsimp only at hSw); go_simp; try with_reducible rfl)
        try simp only [Act.put, List.setIfInBounds_toArray, List.set_cons_zero, List.set_cons_succ]
        refine take_two (i := 1) (j := 3) rfl rfl (by kernel_rfl) (by rfl) (by rfl) (fun Kq hK => ?oneu1) (fun Kq hK => ?twou1)
        case oneu1 =>
         go_simp
         refine hK.out _ _ ?hqa1 (fun hHeld => ?rqa1)
         case hqa1 => ((try dsimp only); go_keep)
         clear hK Kq
         try simp only [Act.put, List.setIfInBounds_toArray, List.set_cons_zero, List.set_cons_succ]
         refine take_call (i := 3) rfl (by kernel_rfl) (by rfl) (fun Kq hK => ?_)
         go_simp
         go_at_call 77
         refine (n_any tv _).mono ?_
         rintro e w14 ⟨rfl, hb14⟩
         have HB14 := Lib.hid (bundrew hb14)
         have n1 := (HB14.out.cell (p := ⟨Y, 1, none⟩) zY).trans y1
         have n0 := (HB14.out.cell (p := ⟨Y, 0, none⟩) zY).trans y0
         have zY14 : Y < w14.heap.size := Nat.lt_of_lt_of_le zY HB14.out.size
         clear hb14
         refine hK.out _ _ ?hqa3 (fun hHeld => ?rqa3)
         case hqa3 => ((try dsimp only); go_keep)
         clear hK Kq
         try simp only [Act.put, List.setIfInBounds_toArray, List.set_cons_zero, List.set_cons_succ]
         refine take_call (i := 4) rfl (by kernel_rfl) (by rfl) (fun Kq hK => ?_)
         go_simp
         refine hK.out _ _ ?hqa4 (fun hHeld => ?rqa4)
         case hqa4 => ((try dsimp only); go_keep)
         clear hK Kq
         try simp only [Act.put, List.setIfInBounds_toArray, List.set_cons_zero, List.set_cons_succ]
         refine take_call (i := 5) rfl (by kernel_rfl) (by rfl) (fun Kq hK => ?_)
         refine (HCm13.out.below (bthen HB14.out ((Below.refl _ _).alloc (Nat.le_refl _) _) HB14.out.size)).wp_push _ _ elemSym rfl rfl ⟨false, tv⟩ HTr.out rfl (by have := HZ13.out.1; have := HB14.out.size; simp; omega) (by have := HYz.out; have := HZ13.out.1; have := HB14.out.size; have := HCm13.out.le; simp; omega) (At.new w14 [.bool false, .int .i64 tv] 40) (by have := HZ13.out.2; omega) (by have := HZ13.out.2; omega) ?_
         intro A7 c7 w15 h71 h72 hE7 hK7
         have HY15 := Lib.hid (((HY13.out.below HB14.out HY13.out.lt).alloc (.cells #[.bool false, .int .i64 tv] 40)).kept hK7 (by have := HYz.out; omega))
         have m1 : w15.cell? ⟨Y, 1, none⟩ = some (.slice A' r'.length c') := HY15.out.cell 1
         have m0 : w15.cell? ⟨Y, 0, none⟩ = some (.int .i64 l') := HY15.out.cell 0
         have fm1 : w15.frozen? ⟨Y, 1, none⟩ = false := HY15.out.frozen 1
         have zY15 : Y < w15.heap.size := HY15.out.lt
         have HN7 := Lib.hid (And.intro h71 h72)
         have hs14 : w14.heap.size < (w14.alloc (.cells #[.bool false, .int .i64 tv] 40)).heap.size := by simp
         have hb7 : Below wo.heap.size wo w15 := (bthen HB13.out (HB14.out.alloc HB14.out.size (.cells #[.bool false, .int .i64 tv] 40)) HB13.out.size).trans (hK7.to_below (fun b hb => by have := HYz.out; omega) (by have := HB13.out.size; have := HB14.out.size; omega))
         have HB15 : Hid (Below wo.heap.size wo (w15.setCell ⟨Y, 1, none⟩ (.slice A7 (r'.length + 1) c7))) := Lib.hid (hb7.setCell (p := ⟨Y, 1, none⟩) (by have := HYz.out; show wo.heap.size ≤ Y; omega) _)
         have hkY : Kept (fun b => b = Y) w15 (w15.setCell ⟨Y, 1, none⟩ (.slice A7 (r'.length + 1) c7)) := (Kept.refl (fun b => b = Y) w15).setCell (p := ⟨Y, 1, none⟩) (.inl rfl) _
         have HE15 : Hid (Els (w15.setCell ⟨Y, 1, none⟩ (.slice A7 (r'.length + 1) c7)) (fun b => wo.heap.size < b ∧ b < (w15.setCell ⟨Y, 1, none⟩ (.slice A7 (r'.length + 1) c7)).heap.size) (r' ++ [⟨false, tv⟩]) A7) := Lib.hid ((hE7.kept hkY (fun b hb h => by have := HYz.out; subst h; have h2 := hb.2.1; omega)).keep (fun _ _ _ => rfl) (fun b hb => ⟨by have := HYz.out; have := hb.1; omega, Nat.lt_of_lt_of_le hb.2.2 hkY.size⟩))
         clear h71 h72 hE7 hK7 hb7 hkY hs14
         refine hK.out _ _ ?hqa5 (fun hHeld => ?rqa5)
         case hqa5 => ((try dsimp only); go_keep)
         clear hK Kq
         try simp only [Act.put, List.setIfInBounds_toArray, List.set_cons_zero, List.set_cons_succ]
         refine take_run (i := 6) (v := ?vqa6) rfl (by kernel_rfl) (by kernel_rfl) (by kernel_rfl) (fun _ _ _ h => h) (by rfl) ?yqa6 (by assumption) ?rqa6
         case yqa6 => (intro w hSw; (try dsimp only at hSw); go_simp; try with_reducible rfl)
         try simp only [Act.put, List.setIfInBounds_toArray, List.set_cons_zero, List.set_cons_succ]
         refine take_call (i := 7) rfl (by kernel_rfl) (by rfl) (fun Kq hK => ?_)
         go_simp
         refine hK.out _ _ ?hqa7 (fun hHeld => ?rqa7)
         case hqa7 => ((try dsimp only); go_keep)
         clear hK Kq
         try simp only [Act.put, List.setIfInBounds_toArray, List.set_cons_zero, List.set_cons_succ]
         refine wpAnyH_done (by kernel_rfl) ?_ _
         refine NoPanic.normal ?_
         go_wp2
         go_meet
         refine ⟨l', r' ++ [⟨false, tv⟩], A7, c7, ?_, ?_, HL.out, ?_, HN7.out.2, ?_, ?_⟩
         ·have h := HSt.out
          have h2 := HIf.out
          rw [HRb.out] at h2
          rw [h]
          split at h2
          ·rw [if_pos (by assumption)]
           injection h2 with e1 e2
           rw [e1, e2]
          ·rw [if_neg (by assumption)]
           injection h2 with e1 e2
           rw [e1, e2]
         ·rw [snoc_len]; exact HY15.out.set_ 1 _
         ·rw [snoc_len]; exact HN7.out.1
         ·exact HE15.out
         ·exact HB15.out
        case twou1 =>
         go_simp
         go_at_call 77
         refine (n_any tv _).mono ?_
         rintro e w14 ⟨rfl, hb14⟩
         have HB14 := Lib.hid (bundrew hb14)
         have n1 := (HB14.out.cell (p := ⟨Y, 1, none⟩) zY).trans y1
         have n0 := (HB14.out.cell (p := ⟨Y, 0, none⟩) zY).trans y0
         have zY14 : Y < w14.heap.size := Nat.lt_of_lt_of_le zY HB14.out.size
         clear hb14
         refine hK.out _ _ ?hqb3 (fun hHeld => ?rqb3)
         case hqb3 => ((try dsimp only); go_keep)
         clear hK Kq
         try simp only [Act.put, List.setIfInBounds_toArray, List.set_cons_zero, List.set_cons_succ]
         refine take_two (i := 1) (j := 4) rfl rfl (by kernel_rfl) (by rfl) (by rfl) (fun Kq hK => ?onev1) (fun Kq hK => ?twov1)
         case onev1 =>
          go_simp
          refine hK.out _ _ ?hqc1 (fun hHeld => ?rqc1)
          case hqc1 => ((try dsimp only); go_keep)
          clear hK Kq
          try simp only [Act.put, List.setIfInBounds_toArray, List.set_cons_zero, List.set_cons_succ]
          refine take_call (i := 4) rfl (by kernel_rfl) (by rfl) (fun Kq hK => ?_)
          go_simp
          refine hK.out _ _ ?hqc4 (fun hHeld => ?rqc4)
          case hqc4 => ((try dsimp only); go_keep)
          clear hK Kq
          try simp only [Act.put, List.setIfInBounds_toArray, List.set_cons_zero, List.set_cons_succ]
          refine take_call (i := 5) rfl (by kernel_rfl) (by rfl) (fun Kq hK => ?_)
          refine (HCm13.out.below (bthen HB14.out ((Below.refl _ _).alloc (Nat.le_refl _) _) HB14.out.size)).wp_push _ _ elemSym rfl rfl ⟨false, tv⟩ HTr.out rfl (by have := HZ13.out.1; have := HB14.out.size; simp; omega) (by have := HYz.out; have := HZ13.out.1; have := HB14.out.size; have := HCm13.out.le; simp; omega) (At.new w14 [.bool false, .int .i64 tv] 40) (by have := HZ13.out.2; omega) (by have := HZ13.out.2; omega) ?_
          intro A7 c7 w15 h71 h72 hE7 hK7
          have HY15 := Lib.hid (((HY13.out.below HB14.out HY13.out.lt).alloc (.cells #[.bool false, .int .i64 tv] 40)).kept hK7 (by have := HYz.out; omega))
          have m1 : w15.cell? ⟨Y, 1, none⟩ = some (.slice A' r'.length c') := HY15.out.cell 1
          have m0 : w15.cell? ⟨Y, 0, none⟩ = some (.int .i64 l') := HY15.out.cell 0
          have fm1 : w15.frozen? ⟨Y, 1, none⟩ = false := HY15.out.frozen 1
          have zY15 : Y < w15.heap.size := HY15.out.lt
          have HN7 := Lib.hid (And.intro h71 h72)
          have hs14 : w14.heap.size < (w14.alloc (.cells #[.bool false, .int .i64 tv] 40)).heap.size := by simp
          have hb7 : Below wo.heap.size wo w15 := (bthen HB13.out (HB14.out.alloc HB14.out.size (.cells #[.bool false, .int .i64 tv] 40)) HB13.out.size).trans (hK7.to_below (fun b hb => by have := HYz.out; omega) (by have := HB13.out.size; have := HB14.out.size; omega))
          have HB15 : Hid (Below wo.heap.size wo (w15.setCell ⟨Y, 1, none⟩ (.slice A7 (r'.length + 1) c7))) := Lib.hid (hb7.setCell (p := ⟨Y, 1, none⟩) (by have := HYz.out; show wo.heap.size ≤ Y; omega) _)
          have hkY : Kept (fun b => b = Y) w15 (w15.setCell ⟨Y, 1, none⟩ (.slice A7 (r'.length + 1) c7)) := (Kept.refl (fun b => b = Y) w15).setCell (p := ⟨Y, 1, none⟩) (.inl rfl) _
          have HE15 : Hid (Els (w15.setCell ⟨Y, 1, none⟩ (.slice A7 (r'.length + 1) c7)) (fun b => wo.heap.size < b ∧ b < (w15.setCell ⟨Y, 1, none⟩ (.slice A7 (r'.length + 1) c7)).heap.size) (r' ++ [⟨false, tv⟩]) A7) := Lib.hid ((hE7.kept hkY (fun b hb h => by have := HYz.out; subst h; have h2 := hb.2.1; omega)).keep (fun _ _ _ => rfl) (fun b hb => ⟨by have := HYz.out; have := hb.1; omega, Nat.lt_of_lt_of_le hb.2.2 hkY.size⟩))
          clear h71 h72 hE7 hK7 hb7 hkY hs14
          refine hK.out _ _ ?hqc5 (fun hHeld => ?rqc5)
          case hqc5 => ((try dsimp only); go_keep)
          clear hK Kq
          try simp only [Act.put, List.setIfInBounds_toArray, List.set_cons_zero, List.set_cons_succ]
          refine take_run (i := 6) (v := ?vqc6) rfl (by kernel_rfl) (by kernel_rfl) (by kernel_rfl) (fun _ _ _ h => h) (by rfl) ?yqc6 (by assumption) ?rqc6
          case yqc6 => (intro w hSw; (try dsimp only at hSw); go_simp; try with_reducible rfl)
          try simp only [Act.put, List.setIfInBounds_toArray, List.set_cons_zero, List.set_cons_succ]
          refine take_call (i := 7) rfl (by kernel_rfl) (by rfl) (fun Kq hK => ?_)
          go_simp
          refine hK.out _ _ ?hqc7 (fun hHeld => ?rqc7)
          case hqc7 => ((try dsimp only); go_keep)
          clear hK Kq
          try simp only [Act.put, List.setIfInBounds_toArray, List.set_cons_zero, List.set_cons_succ]
          refine wpAnyH_done (by kernel_rfl) ?_ _
          refine NoPanic.normal ?_
          go_wp2
          go_meet
          refine ⟨l', r' ++ [⟨false, tv⟩], A7, c7, ?_, ?_, HL.out, ?_, HN7.out.2, ?_, ?_⟩
          ·have h := HSt.out
           have h2 := HIf.out
           rw [HRb.out] at h2
           rw [h]
           split at h2
           ·rw [if_pos (by assumption)]
            injection h2 with e1 e2
            rw [e1, e2]
           ·rw [if_neg (by assumption)]
            injection h2 with e1 e2
            rw [e1, e2]
          ·rw [snoc_len]; exact HY15.out.set_ 1 _
          ·rw [snoc_len]; exact HN7.out.1
          ·exact HE15.out
          ·exact HB15.out
         case twov1 =>
          go_simp
          refine hK.out _ _ ?hqd4 (fun hHeld => ?rqd4)
          case hqd4 => ((try dsimp only); go_keep)
          clear hK Kq
          try simp only [Act.put, List.setIfInBounds_toArray, List.set_cons_zero, List.set_cons_succ]
          refine take_call (i := 1) rfl (by kernel_rfl) (by rfl) (fun Kq hK => ?_)
          go_simp
          refine hK.out _ _ ?hqd1 (fun hHeld => ?rqd1)
          case hqd1 => ((try dsimp only); go_keep)
          clear hK Kq
          try simp only [Act.put, List.setIfInBounds_toArray, List.set_cons_zero, List.set_cons_succ]
          refine take_call (i := 5) rfl (by kernel_rfl) (by rfl) (fun Kq hK => ?_)
          refine (HCm13.out.below (bthen HB14.out ((Below.refl _ _).alloc (Nat.le_refl _) _) HB14.out.size)).wp_push _ _ elemSym rfl rfl ⟨false, tv⟩ HTr.out rfl (by have := HZ13.out.1; have := HB14.out.size; simp; omega) (by have := HYz.out; have := HZ13.out.1; have := HB14.out.size; have := HCm13.out.le; simp; omega) (At.new w14 [.bool false, .int .i64 tv] 40) (by have := HZ13.out.2; omega) (by have := HZ13.out.2; omega) ?_
          intro A7 c7 w15 h71 h72 hE7 hK7
          have HY15 := Lib.hid (((HY13.out.below HB14.out HY13.out.lt).alloc (.cells #[.bool false, .int .i64 tv] 40)).kept hK7 (by have := HYz.out; omega))
          have m1 : w15.cell? ⟨Y, 1, none⟩ = some (.slice A' r'.length c') := HY15.out.cell 1
          have m0 : w15.cell? ⟨Y, 0, none⟩ = some (.int .i64 l') := HY15.out.cell 0
          have fm1 : w15.frozen? ⟨Y, 1, none⟩ = false := HY15.out.frozen 1
          have zY15 : Y < w15.heap.size := HY15.out.lt
          have HN7 := Lib.hid (And.intro h71 h72)
          have hs14 : w14.heap.size < (w14.alloc (.cells #[.bool false, .int .i64 tv] 40)).heap.size := by simp
          have hb7 : Below wo.heap.size wo w15 := (bthen HB13.out (HB14.out.alloc HB14.out.size (.cells #[.bool false, .int .i64 tv] 40)) HB13.out.size).trans (hK7.to_below (fun b hb => by have := HYz.out; omega) (by have := HB13.out.size; have := HB14.out.size; omega))
          have HB15 : Hid (Below wo.heap.size wo (w15.setCell ⟨Y, 1, none⟩ (.slice A7 (r'.length + 1) c7))) := Lib.hid (hb7.setCell (p := ⟨Y, 1, none⟩) (by have := HYz.out; show wo.heap.size ≤ Y; omega) _)
          have hkY : Kept (fun b => b = Y) w15 (w15.setCell ⟨Y, 1, none⟩ (.slice A7 (r'.length + 1) c7)) := (Kept.refl (fun b => b = Y) w15).setCell (p := ⟨Y, 1, none⟩) (.inl rfl) _
          have HE15 : Hid (Els (w15.setCell ⟨Y, 1, none⟩ (.slice A7 (r'.length + 1) c7)) (fun b => wo.heap.size < b ∧ b < (w15.setCell ⟨Y, 1, none⟩ (.slice A7 (r'.length + 1) c7)).heap.size) (r' ++ [⟨false, tv⟩]) A7) := Lib.hid ((hE7.kept hkY (fun b hb h => by have := HYz.out; subst h; have h2 := hb.2.1; omega)).keep (fun _ _ _ => rfl) (fun b hb => ⟨by have := HYz.out; have := hb.1; omega, Nat.lt_of_lt_of_le hb.2.2 hkY.size⟩))
          clear h71 h72 hE7 hK7 hb7 hkY hs14
          refine hK.out _ _ ?hqd5 (fun hHeld => ?rqd5)
          case hqd5 => ((try dsimp only); go_keep)
          clear hK Kq
          try simp only [Act.put, List.setIfInBounds_toArray, List.set_cons_zero, List.set_cons_succ]
          refine take_run (i := 6) (v := ?vqd6) rfl (by kernel_rfl) (by kernel_rfl) (by kernel_rfl) (fun _ _ _ h => h) (by rfl) ?yqd6 (by assumption) ?rqd6
          case yqd6 => (intro w hSw; (try dsimp only at hSw); go_simp; try with_reducible rfl)
          try simp only [Act.put, List.setIfInBounds_toArray, List.set_cons_zero, List.set_cons_succ]
          refine take_call (i := 7) rfl (by kernel_rfl) (by rfl) (fun Kq hK => ?_)
          go_simp
          refine hK.out _ _ ?hqd7 (fun hHeld => ?rqd7)
          case hqd7 => ((try dsimp only); go_keep)
          clear hK Kq
          try simp only [Act.put, List.setIfInBounds_toArray, List.set_cons_zero, List.set_cons_succ]
          refine wpAnyH_done (by kernel_rfl) ?_ _
          refine NoPanic.normal ?_
          go_wp2
          go_meet
          refine ⟨l', r' ++ [⟨false, tv⟩], A7, c7, ?_, ?_, HL.out, ?_, HN7.out.2, ?_, ?_⟩
          ·have h := HSt.out
           have h2 := HIf.out
           rw [HRb.out] at h2
           rw [h]
           split at h2
           ·rw [if_pos (by assumption)]
            injection h2 with e1 e2
            rw [e1, e2]
           ·rw [if_neg (by assumption)]
            injection h2 with e1 e2
            rw [e1, e2]
          ·rw [snoc_len]; exact HY15.out.set_ 1 _
          ·rw [snoc_len]; exact HN7.out.1
          ·exact HE15.out
          ·exact HB15.out
      case rest =>
      obtain ⟨l', r', A', c', hst, hY12, hl64, hr1, hr2, hE12, hb12⟩ := hcut
      obtain ⟨w12, hw12⟩ : ∃ w12 : World, w12 = wc := ⟨_, rfl⟩
      subst hw12
      have HSt := Lib.hid hst
      have HL := Lib.hid hl64
      have HRc := Lib.hid (And.intro hr1 hr2)
      have HY12 := Lib.hid hY12
      have HB12 := Lib.hid hb12
      have HP12 := Lib.hid (HPo.out.below hb12 HPo.out.lt)
      have HT12 := Lib.hid (HTo.out.below hb12 HTo.out.lt)
      have HG12 := Lib.hid (HGo.out.below hb12 HGo.out.lt)
      have hYz := HYz.out
      have hzo := HZo.out
      have hPB : P < w8.heap.size := HP8.out.lt
      have hTB : gT < w8.heap.size := HT8.out.lt
      have hGB : w.heap.size < w8.heap.size := HG8.out.lt
      have hY9 : Y < w12.heap.size := hY12.lt
      have HS0 : Hid (TwS w8.heap.size wo.heap.size w12.heap.size 60 3 w12 w12.drew v1 v2 ((rs.take j).map (strR ⟨(m : Int), (n : Int), gs, rs⟩ n)) (idxL j) []) :=
       Lib.hid (TwS.start (H2.out.below hb12 (Nat.le_refl _)) (fun k hk => (H2.out.1.block k hk).2) (fun k hk => (H2.out.2.1.block k hk).2) hzo hb12.size (Nat.le_refl _)).drew
      have HRd : Hid (Dat.rd w12 (fun b => wo.heap.size < b ∧ b < w12.heap.size) (⟨l', r'⟩ : Rule) [.int .i64 l', .slice A' r'.length c']) := Lib.hid ⟨_, rfl, hl64, Vl.of_slice rfl hr1 hr2 hE12⟩
      have HRi : Hid (Dat.rd w12 (fun _ => False) (j : Int) [.int .i64 (j : Int)]) := Lib.hid ⟨rfl, by unfold I64; omega⟩
      have HLx : Hid (((rs.take j).map (strR ⟨(m : Int), (n : Int), gs, rs⟩ n)).length = j) := Lib.hid (by simp; omega)
      have HLi : Hid ((idxL j).length = j) := Lib.hid (idxL_len j)
      have HNb : Hid (∀ {w' v1 v2 xs ys bx}, TwS (α := Rule) (β := Int) w8.heap.size wo.heap.size w12.heap.size 60 3 w12 w' v1 v2 xs ys bx → (w'.cell? ⟨P, 7, none⟩ = w12.cell? ⟨P, 7, none⟩ ∧ w'.cell? ⟨P, 9, none⟩ = w12.cell? ⟨P, 9, none⟩ ∧ w'.cell? ⟨Y, 0, none⟩ = w12.cell? ⟨Y, 0, none⟩ ∧ w'.cell? ⟨Y, 1, none⟩ = w12.cell? ⟨Y, 1, none⟩) ∧ w'.frozen? ⟨P, 7, none⟩ = false ∧ w'.frozen? ⟨P, 9, none⟩ = false ∧ P < w'.heap.size) := Lib.hid (fun h =>
       ⟨⟨h.bel.cell (p := ⟨P, 7, none⟩) hPB, h.bel.cell (p := ⟨P, 9, none⟩) hPB, h.mid ⟨Y, 0, none⟩ (by show wo.heap.size ≤ Y; omega) hY9, h.mid ⟨Y, 1, none⟩ (by show wo.heap.size ≤ Y; omega) hY9⟩, (HP12.out.below h.bel hPB).frozen 7, (HP12.out.below h.bel hPB).frozen 9, (HP12.out.below h.bel hPB).lt⟩)
      have p7 : w12.cell? ⟨P, 7, none⟩ = some v1 := HP12.out.cell 7
      have p9 : w12.cell? ⟨P, 9, none⟩ = some v2 := HP12.out.cell 9
      have y0 : w12.cell? ⟨Y, 0, none⟩ = some (.int .i64 l') := hY12.cell 0
      have y1 : w12.cell? ⟨Y, 1, none⟩ = some (.slice A' r'.length c') := hY12.cell 1
      have zP : P < w12.heap.size := HP12.out.lt
      have HYZ := Lib.hid (And.intro hYz (And.intro hzo (And.intro hPB (And.intro hTB (And.intro hGB hY9)))))
      have hj99 : (j + 1) * 32 ≤ 140737488355328 := by omega
      clear hst hY12 hl64 hr1 hr2 hE12 hb12 hYz hzo hPB hTB hGB hY9
      go_upto_region 27 with (fail)
      refine wp_region_noPanic ?_
      refine stage_start (S := (fun w' => w'.cell? ⟨P, 7, none⟩ = some v1 ∧ w'.cell? ⟨P, 9, none⟩ = some v2 ∧ w'.cell? ⟨Y, 0, none⟩ = some (.int .i64 l') ∧ w'.cell? ⟨Y, 1, none⟩ = some (.slice A' r'.length c'))) 17 (by kernel_rfl) ?hg (fun hHeld => ?bg)
      case hg => ((try dsimp only); go_keep)
      refine st_pure (i := 0) (v := ?vg0) rfl (by kernel_rfl) (by kernel_rfl) (by kernel_rfl) (by kernel_rfl) (fun _ _ _ h => h) (by rfl) ?yg0 (.inl (by assumption)) ?rg0
      case yg0 => (intro w; go_simp; try with_reducible rfl)
      try simp only [Act.put, List.setIfInBounds_toArray, List.set_cons_zero, List.set_cons_succ]
      refine st_pure (i := 1) (v := ?vg1) rfl (by kernel_rfl) (by kernel_rfl) (by kernel_rfl) (by kernel_rfl) (fun _ _ _ h => h) (by rfl) ?yg1 (.inl (by assumption)) ?rg1
      case yg1 => (intro w; go_simp; try with_reducible rfl)
      try simp only [Act.put, List.setIfInBounds_toArray, List.set_cons_zero, List.set_cons_succ]
      refine st_pure (i := 2) (v := ?vg2) rfl (by kernel_rfl) (by kernel_rfl) (by kernel_rfl) (by kernel_rfl) (fun _ _ _ h => h) (by rfl) ?yg2 (.inl (by assumption)) ?rg2
      case yg2 => (intro w; go_simp; try with_reducible rfl)
      try simp only [Act.put, List.setIfInBounds_toArray, List.set_cons_zero, List.set_cons_succ]
      refine st_pure (i := 3) (v := ?vg3) rfl (by kernel_rfl) (by kernel_rfl) (by kernel_rfl) (by kernel_rfl) (fun _ _ _ h => h) (by rfl) ?yg3 (.inl (by assumption)) ?rg3
      case yg3 => (intro w; go_simp; try with_reducible rfl)
      try simp only [Act.put, List.setIfInBounds_toArray, List.set_cons_zero, List.set_cons_succ]
      refine st_pure (i := 4) (v := ?vg4) rfl (by kernel_rfl) (by kernel_rfl) (by kernel_rfl) (by kernel_rfl) (fun _ _ _ h => h) (by rfl) ?yg4 (.inl (by assumption)) ?rg4
      case yg4 => (intro w; go_simp; try with_reducible rfl)
      try simp only [Act.put, List.setIfInBounds_toArray, List.set_cons_zero, List.set_cons_succ]
      refine st_pure (i := 5) (v := ?vg5) rfl (by kernel_rfl) (by kernel_rfl) (by kernel_rfl) (by kernel_rfl) (fun _ _ _ h => h) (by rfl) ?yg5 (.inl (by assumption)) ?rg5
      case yg5 => (intro w; go_simp; try with_reducible rfl)
      try simp only [Act.put, List.setIfInBounds_toArray, List.set_cons_zero, List.set_cons_succ]
      refine st_run (i := 6) (v := ?vg6) rfl (by kernel_rfl) (by kernel_rfl) (by kernel_rfl) (by kernel_rfl) (fun _ _ _ h => h) (by rfl) ?yg6 (by assumption) ?rg6
      case yg6 => (intro w hSw; (try dsimp only at hSw); go_simp; try with_reducible rfl)
      try simp only [Act.put, List.setIfInBounds_toArray, List.set_cons_zero, List.set_cons_succ]
      refine st_run (i := 7) (v := ?vg7) rfl (by kernel_rfl) (by kernel_rfl) (by kernel_rfl) (by kernel_rfl) (fun _ _ _ h => h) (by rfl) ?yg7 (by assumption) ?rg7
      case yg7 => (intro w hSw; (try dsimp only at hSw); go_simp; try with_reducible rfl)
      try simp only [Act.put, List.setIfInBounds_toArray, List.set_cons_zero, List.set_cons_succ]
      refine st_pure (i := 10) (v := ?vg10) rfl (by kernel_rfl) (by kernel_rfl) (by kernel_rfl) (by kernel_rfl) (fun _ _ _ h => h) (by rfl) ?yg10 (.inl (by assumption)) ?rg10
      case yg10 => (intro w; go_simp; try with_reducible rfl)
      try simp only [Act.put, List.setIfInBounds_toArray, List.set_cons_zero, List.set_cons_succ]
      refine st_pure (i := 11) (v := ?vg11) rfl (by kernel_rfl) (by kernel_rfl) (by kernel_rfl) (by kernel_rfl) (fun _ _ _ h => h) (by rfl) ?yg11 (.inl (by assumption)) ?rg11
      case yg11 => (intro w; go_simp; try with_reducible rfl)
      try simp only [Act.put, List.setIfInBounds_toArray, List.set_cons_zero, List.set_cons_succ]
      refine st_pure (i := 12) (v := ?vg12) rfl (by kernel_rfl) (by kernel_rfl) (by kernel_rfl) (by kernel_rfl) (fun _ _ _ h => h) (by rfl) ?yg12 (.inl (by assumption)) ?rg12
      case yg12 => (intro w; go_simp; try with_reducible rfl)
      try simp only [Act.put, List.setIfInBounds_toArray, List.set_cons_zero, List.set_cons_succ]
      refine st_run (i := 13) (v := ?vg13) rfl (by kernel_rfl) (by kernel_rfl) (by kernel_rfl) (by kernel_rfl) (fun _ _ _ h => h) (by rfl) ?yg13 (by assumption) ?rg13
      case yg13 => (intro w hSw; (try dsimp only at hSw); go_simp; try with_reducible rfl)
      try simp only [Act.put, List.setIfInBounds_toArray, List.set_cons_zero, List.set_cons_succ]
      refine st_pure (i := 14) (v := ?vg14) rfl (by kernel_rfl) (by kernel_rfl) (by kernel_rfl) (by kernel_rfl) (fun _ _ _ h => h) (by rfl) ?yg14 (.inl (by assumption)) ?rg14
      case yg14 => (intro w; go_simp; try with_reducible rfl)
      try simp only [Act.put, List.setIfInBounds_toArray, List.set_cons_zero, List.set_cons_succ]
      refine st_two (i := 8) (j := 15) rfl rfl (by kernel_rfl) (by rfl) (by rfl) (fun Kq hK => ?onetn8) (fun Kq hK => ?twotn8)
      case onetn8 =>
       have HS1 := Lib.hid (HS0.out.boxed [.int .i64 l', .slice A' r'.length c'] 60 (by simp))
       go_simp
       refine hK.out _ _ ?hta8 (fun hHeld => ?rta8)
       case hta8 => ((try dsimp only); go_keep)
       clear hK Kq
       try simp only [Act.put, List.setIfInBounds_toArray, List.set_cons_zero, List.set_cons_succ]
       refine st_two (i := 9) (j := 15) rfl rfl (by kernel_rfl) (by rfl) (by rfl) (fun Kq hK => ?onetm9) (fun Kq hK => ?twotm9)
       case onetm9 =>
        refine HS1.out.app1 _ _ elemRule rfl rfl ⟨l', r'⟩ [.int .i64 l', .slice A' r'.length c'] rfl (by simp) HRd.out (fun b hb => ⟨Nat.le_of_lt hb.1, hb.2⟩) (by rw [HLx.out]; exact hj99) (by rw [HLx.out]; omega) ?_
        intro v1' w13 hS13 hs13 hf13
        obtain ⟨A13, c13, ev13⟩ := hf13
        rw [HLx.out] at ev13
        subst ev13
        have HS2 := Lib.hid hS13
        clear hS13 hs13
        have q_ := HNb.out HS2.out
        have p7a : w13.cell? ⟨P, 7, none⟩ = some v1 := q_.1.1.trans p7
        have p9a : w13.cell? ⟨P, 9, none⟩ = some v2 := q_.1.2.1.trans p9
        have y0a : w13.cell? ⟨Y, 0, none⟩ = some (.int .i64 l') := q_.1.2.2.1.trans y0
        have y1a : w13.cell? ⟨Y, 1, none⟩ = some (.slice A' r'.length c') := q_.1.2.2.2.trans y1
        have f7a := q_.2.1
        have f9a := q_.2.2.1
        have zPa := q_.2.2.2
        clear q_
        refine hK.out _ _ ?htb9 (fun hHeld => ?rtb9)
        case htb9 => ((try dsimp only); go_keep)
        clear hK Kq
        try simp only [Act.put, List.setIfInBounds_toArray, List.set_cons_zero, List.set_cons_succ]
        refine st_one (i := 15) rfl (by kernel_rfl) (by rfl) (fun Kq hK => ?_)
        have HS3 := Lib.hid (HS2.out.boxed [.int .i64 (j : Int)] 3 (by simp))
        go_simp
        refine hK.out _ _ ?htb15 (fun hHeld => ?rtb15)
        case htb15 => ((try dsimp only); go_keep)
        clear hK Kq
        try simp only [Act.put, List.setIfInBounds_toArray, List.set_cons_zero, List.set_cons_succ]
        refine st_one (i := 16) rfl (by kernel_rfl) (by rfl) (fun Kq hK => ?_)
        refine HS3.out.app2 _ _ elemInt rfl rfl (j : Int) [.int .i64 (j : Int)] rfl (by simp) HRi.out (fun b hb => hb.elim) (by rw [HLi.out]; omega) (by rw [HLi.out]; omega) ?_
        intro v2' w14 hS14 hs14 hf14
        obtain ⟨A14, c14, ev14⟩ := hf14
        rw [HLi.out] at ev14
        subst ev14
        have HS4 := Lib.hid hS14
        clear hS14 hs14
        have q_ := HNb.out HS4.out
        have p7b : w14.cell? ⟨P, 7, none⟩ = some v1 := q_.1.1.trans p7
        have p9b : w14.cell? ⟨P, 9, none⟩ = some v2 := q_.1.2.1.trans p9
        have y0b : w14.cell? ⟨Y, 0, none⟩ = some (.int .i64 l') := q_.1.2.2.1.trans y0
        have y1b : w14.cell? ⟨Y, 1, none⟩ = some (.slice A' r'.length c') := q_.1.2.2.2.trans y1
        have f7b := q_.2.1
        have f9b := q_.2.2.1
        have zPb := q_.2.2.2
        clear q_
        refine hK.out _ _ ?htb16 (fun hHeld => ?rtb16)
        case htb16 => ((try dsimp only); go_keep)
        clear hK Kq
        try simp only [Act.put, List.setIfInBounds_toArray, List.set_cons_zero, List.set_cons_succ]
        refine st_late (i := 17) rfl (by kernel_rfl) (by rfl) (by kernel_rfl) (fun Kq hK => ?_)
        go_simp
        refine hK.out _ _ ?_
        clear hK Kq
        try simp only [Act.put, List.setIfInBounds_toArray, List.set_cons_zero, List.set_cons_succ]
        refine st_pure (i := 18) (v := ?vtb18) rfl (by kernel_rfl) (by kernel_rfl) (by kernel_rfl) (by kernel_rfl) (fun _ _ _ h => h) (by rfl) ?ytb18 (.inr (by kernel_rfl)) ?rtb18
        case ytb18 => (intro w; go_simp; try with_reducible rfl)
        try simp only [Act.put, List.setIfInBounds_toArray, List.set_cons_zero, List.set_cons_succ]
        refine st_pure (i := 19) (v := ?vtb19) rfl (by kernel_rfl) (by kernel_rfl) (by kernel_rfl) (by kernel_rfl) (fun _ _ _ h => h) (by rfl) ?ytb19 (.inr (by kernel_rfl)) ?rtb19
        case ytb19 => (intro w; go_simp; try with_reducible rfl)
        try simp only [Act.put, List.setIfInBounds_toArray, List.set_cons_zero, List.set_cons_succ]
        refine st_late (i := 20) rfl (by kernel_rfl) (by rfl) (by kernel_rfl) (fun Kq hK => ?_)
        go_simp
        refine hK.out _ _ ?_
        clear hK Kq
        try simp only [Act.put, List.setIfInBounds_toArray, List.set_cons_zero, List.set_cons_succ]
        refine st_pure (i := 21) (v := ?vtb21) rfl (by kernel_rfl) (by kernel_rfl) (by kernel_rfl) (by kernel_rfl) (fun _ _ _ h => h) (by rfl) ?ytb21 (.inr (by kernel_rfl)) ?rtb21
        case ytb21 => (intro w; go_simp; try with_reducible rfl)
        try simp only [Act.put, List.setIfInBounds_toArray, List.set_cons_zero, List.set_cons_succ]
        refine st_pure (i := 22) (v := ?vtb22) rfl (by kernel_rfl) (by kernel_rfl) (by kernel_rfl) (by kernel_rfl) (fun _ _ _ h => h) (by rfl) ?ytb22 (.inr (by kernel_rfl)) ?rtb22
        case ytb22 => (intro w; go_simp; try with_reducible rfl)
        try simp only [Act.put, List.setIfInBounds_toArray, List.set_cons_zero, List.set_cons_succ]
        refine st_late (i := 23) rfl (by kernel_rfl) (by rfl) (by kernel_rfl) (fun Kq hK => ?_)
        go_simp
        refine hK.out _ _ ?_
        clear hK Kq
        try simp only [Act.put, List.setIfInBounds_toArray, List.set_cons_zero, List.set_cons_succ]
        refine wpAnyD_done (by kernel_rfl) ?_ _
        refine NoPanic.normal ?_
        go_wp2_with fail
        go_roundw
        case rel =>
         have hT := HS4.out
         have hz := HYZ.out
         have hzz := HPz.out
         have hPB := hz.2.2.1
         have hTB := hz.2.2.2.1
         have hGB := hz.2.2.2.2.1
         have hwP : w.heap.size ≤ P := by omega
         have hTP : ¬ gT = P := by omega
         have hGP : ¬ w.heap.size = P := by omega
         have hnP : ¬ w8.heap.size ≤ P := by omega
         have hs14 := hT.bel.size
         have hs12 := HB12.out.size
         clear hz hzz
         have h2 := (hT.two.set_ (p := ⟨P, 7, none⟩) (fun h => h.elim id hnP) (.slice A13 (j + 1) c13)).set_ (p := ⟨P, 9, none⟩) (fun h => h.elim id hnP) (.slice A14 (j + 1) c14)
         rw [← idxL_snoc, ← HSt.out, ← List.map_singleton, ← List.map_append, ← take_snoc HQ.out] at h2
         have h3 := ((HP12.out.below hT.bel hPB).set_ 7 (.slice A13 (j + 1) c13)).set_ 9 (.slice A14 (j + 1) c14)
         have h4 := ((HT12.out.below hT.bel hTB).far (p := ⟨P, 7, none⟩) hTP (.slice A13 (j + 1) c13)).far (p := ⟨P, 9, none⟩) hTP (.slice A14 (j + 1) c14)
         have h5 := ((HG12.out.below hT.bel hGB).far (p := ⟨P, 7, none⟩) hGP (.slice A13 (j + 1) c13)).far (p := ⟨P, 9, none⟩) hGP (.slice A14 (j + 1) c14)
         have h6 := (((bthen HBo.out HB12.out HBo.out.size).trans (hT.bel.mono (Nat.le_of_lt hGB))).setCell (p := ⟨P, 7, none⟩) hwP (.slice A13 (j + 1) c13)).setCell (p := ⟨P, 9, none⟩) hwP (.slice A14 (j + 1) c14)
         have h7 : w14.heap.size ≤ ((w14.setCell ⟨P, 7, none⟩ (.slice A13 (j + 1) c13)).setCell ⟨P, 9, none⟩ (.slice A14 (j + 1) c14)).heap.size := by simp [World.setCell]
         have h8 := Nat.le_trans HZo.out (Nat.le_trans hs12 (Nat.le_trans hs14 h7))
         clear hs12 hs14 h7 hT
         exact ⟨j + 1, _, _, hjn, by go_num, h2, ⟨h3, h4, h5⟩, h6, h8⟩
        case measure => simp [intOf]; omega
       case twotm9 =>
        have HS2 := Lib.hid (HS1.out.boxed [.int .i64 (j : Int)] 3 (by simp))
        go_simp
        refine hK.out _ _ ?htc15 (fun hHeld => ?rtc15)
        case htc15 => ((try dsimp only); go_keep)
        clear hK Kq
        try simp only [Act.put, List.setIfInBounds_toArray, List.set_cons_zero, List.set_cons_succ]
        refine st_one (i := 9) rfl (by kernel_rfl) (by rfl) (fun Kq hK => ?_)
        refine HS2.out.app1 _ _ elemRule rfl rfl ⟨l', r'⟩ [.int .i64 l', .slice A' r'.length c'] rfl (by simp) HRd.out (fun b hb => ⟨Nat.le_of_lt hb.1, hb.2⟩) (by rw [HLx.out]; exact hj99) (by rw [HLx.out]; omega) ?_
        intro v1' w13 hS13 hs13 hf13
        obtain ⟨A13, c13, ev13⟩ := hf13
        rw [HLx.out] at ev13
        subst ev13
        have HS3 := Lib.hid hS13
        clear hS13 hs13
        have q_ := HNb.out HS3.out
        have p7a : w13.cell? ⟨P, 7, none⟩ = some v1 := q_.1.1.trans p7
        have p9a : w13.cell? ⟨P, 9, none⟩ = some v2 := q_.1.2.1.trans p9
        have y0a : w13.cell? ⟨Y, 0, none⟩ = some (.int .i64 l') := q_.1.2.2.1.trans y0
        have y1a : w13.cell? ⟨Y, 1, none⟩ = some (.slice A' r'.length c') := q_.1.2.2.2.trans y1
        have f7a := q_.2.1
        have f9a := q_.2.2.1
        have zPa := q_.2.2.2
        clear q_
        refine hK.out _ _ ?htc9 (fun hHeld => ?rtc9)
        case htc9 => ((try dsimp only); go_keep)
        clear hK Kq
        try simp only [Act.put, List.setIfInBounds_toArray, List.set_cons_zero, List.set_cons_succ]
        refine st_one (i := 16) rfl (by kernel_rfl) (by rfl) (fun Kq hK => ?_)
        refine HS3.out.app2 _ _ elemInt rfl rfl (j : Int) [.int .i64 (j : Int)] rfl (by simp) HRi.out (fun b hb => hb.elim) (by rw [HLi.out]; omega) (by rw [HLi.out]; omega) ?_
        intro v2' w14 hS14 hs14 hf14
        obtain ⟨A14, c14, ev14⟩ := hf14
        rw [HLi.out] at ev14
        subst ev14
        have HS4 := Lib.hid hS14
        clear hS14 hs14
        have q_ := HNb.out HS4.out
        have p7b : w14.cell? ⟨P, 7, none⟩ = some v1 := q_.1.1.trans p7
        have p9b : w14.cell? ⟨P, 9, none⟩ = some v2 := q_.1.2.1.trans p9
        have y0b : w14.cell? ⟨Y, 0, none⟩ = some (.int .i64 l') := q_.1.2.2.1.trans y0
        have y1b : w14.cell? ⟨Y, 1, none⟩ = some (.slice A' r'.length c') := q_.1.2.2.2.trans y1
        have f7b := q_.2.1
        have f9b := q_.2.2.1
        have zPb := q_.2.2.2
        clear q_
        refine hK.out _ _ ?htc16 (fun hHeld => ?rtc16)
        case htc16 => ((try dsimp only); go_keep)
        clear hK Kq
        try simp only [Act.put, List.setIfInBounds_toArray, List.set_cons_zero, List.set_cons_succ]
        refine st_late (i := 17) rfl (by kernel_rfl) (by rfl) (by kernel_rfl) (fun Kq hK => ?_)
        go_simp
        refine hK.out _ _ ?_
        clear hK Kq
        try simp only [Act.put, List.setIfInBounds_toArray, List.set_cons_zero, List.set_cons_succ]
        refine st_pure (i := 18) (v := ?vtc18) rfl (by kernel_rfl) (by kernel_rfl) (by kernel_rfl) (by kernel_rfl) (fun _ _ _ h => h) (by rfl) ?ytc18 (.inr (by kernel_rfl)) ?rtc18
        case ytc18 => (intro w; go_simp; try with_reducible rfl)
        try simp only [Act.put, List.setIfInBounds_toArray, List.set_cons_zero, List.set_cons_succ]
        refine st_pure (i := 19) (v := ?vtc19) rfl (by kernel_rfl) (by kernel_rfl) (by kernel_rfl) (by kernel_rfl) (fun _ _ _ h => h) (by rfl) ?ytc19 (.inr (by kernel_rfl)) ?rtc19
        case ytc19 => (intro w; go_simp; try with_reducible rfl)
        try simp only [Act.put, List.setIfInBounds_toArray, List.set_cons_zero, List.set_cons_succ]
        refine st_late (i := 20) rfl (by kernel_rfl) (by rfl) (by kernel_rfl) (fun Kq hK => ?_)
        go_simp
        refine hK.out _ _ ?_
        clear hK Kq
        try simp only [Act.put, List.setIfInBounds_toArray, List.set_cons_zero, List.set_cons_succ]
        refine st_pure (i := 21) (v := ?vtc21) rfl (by kernel_rfl) (by kernel_rfl) (by kernel_rfl) (by kernel_rfl) (fun _ _ _ h => h) (by rfl) ?ytc21 (.inr (by kernel_rfl)) ?rtc21
        case ytc21 => (intro w; go_simp; try with_reducible rfl)
        try simp only [Act.put, List.setIfInBounds_toArray, List.set_cons_zero, List.set_cons_succ]
        refine st_pure (i := 22) (v := ?vtc22) rfl (by kernel_rfl) (by kernel_rfl) (by kernel_rfl) (by kernel_rfl) (fun _ _ _ h => h) (by rfl) ?ytc22 (.inr (by kernel_rfl)) ?rtc22
        case ytc22 => (intro w; go_simp; try with_reducible rfl)
        try simp only [Act.put, List.setIfInBounds_toArray, List.set_cons_zero, List.set_cons_succ]
        refine st_late (i := 23) rfl (by kernel_rfl) (by rfl) (by kernel_rfl) (fun Kq hK => ?_)
        go_simp
        refine hK.out _ _ ?_
        clear hK Kq
        try simp only [Act.put, List.setIfInBounds_toArray, List.set_cons_zero, List.set_cons_succ]
        refine wpAnyD_done (by kernel_rfl) ?_ _
        refine NoPanic.normal ?_
        go_wp2_with fail
        go_roundw
        case rel =>
         have hT := HS4.out
         have hz := HYZ.out
         have hzz := HPz.out
         have hPB := hz.2.2.1
         have hTB := hz.2.2.2.1
         have hGB := hz.2.2.2.2.1
         have hwP : w.heap.size ≤ P := by omega
         have hTP : ¬ gT = P := by omega
         have hGP : ¬ w.heap.size = P := by omega
         have hnP : ¬ w8.heap.size ≤ P := by omega
         have hs14 := hT.bel.size
         have hs12 := HB12.out.size
         clear hz hzz
         have h2 := (hT.two.set_ (p := ⟨P, 7, none⟩) (fun h => h.elim id hnP) (.slice A13 (j + 1) c13)).set_ (p := ⟨P, 9, none⟩) (fun h => h.elim id hnP) (.slice A14 (j + 1) c14)
         rw [← idxL_snoc, ← HSt.out, ← List.map_singleton, ← List.map_append, ← take_snoc HQ.out] at h2
         have h3 := ((HP12.out.below hT.bel hPB).set_ 7 (.slice A13 (j + 1) c13)).set_ 9 (.slice A14 (j + 1) c14)
         have h4 := ((HT12.out.below hT.bel hTB).far (p := ⟨P, 7, none⟩) hTP (.slice A13 (j + 1) c13)).far (p := ⟨P, 9, none⟩) hTP (.slice A14 (j + 1) c14)
         have h5 := ((HG12.out.below hT.bel hGB).far (p := ⟨P, 7, none⟩) hGP (.slice A13 (j + 1) c13)).far (p := ⟨P, 9, none⟩) hGP (.slice A14 (j + 1) c14)
         have h6 := (((bthen HBo.out HB12.out HBo.out.size).trans (hT.bel.mono (Nat.le_of_lt hGB))).setCell (p := ⟨P, 7, none⟩) hwP (.slice A13 (j + 1) c13)).setCell (p := ⟨P, 9, none⟩) hwP (.slice A14 (j + 1) c14)
         have h7 : w14.heap.size ≤ ((w14.setCell ⟨P, 7, none⟩ (.slice A13 (j + 1) c13)).setCell ⟨P, 9, none⟩ (.slice A14 (j + 1) c14)).heap.size := by simp [World.setCell]
         have h8 := Nat.le_trans HZo.out (Nat.le_trans hs12 (Nat.le_trans hs14 h7))
         clear hs12 hs14 h7 hT
         exact ⟨j + 1, _, _, hjn, by go_num, h2, ⟨h3, h4, h5⟩, h6, h8⟩
        case measure => simp [intOf]; omega
      case twotn8 =>
       have HS1 := Lib.hid (HS0.out.boxed [.int .i64 (j : Int)] 3 (by simp))
       go_simp
       refine hK.out _ _ ?htd15 (fun hHeld => ?rtd15)
       case htd15 => ((try dsimp only); go_keep)
       clear hK Kq
       try simp only [Act.put, List.setIfInBounds_toArray, List.set_cons_zero, List.set_cons_succ]
       refine st_one (i := 8) rfl (by kernel_rfl) (by rfl) (fun Kq hK => ?_)
       have HS2 := Lib.hid (HS1.out.boxed [.int .i64 l', .slice A' r'.length c'] 60 (by simp))
       go_simp
       refine hK.out _ _ ?htd8 (fun hHeld => ?rtd8)
       case htd8 => ((try dsimp only); go_keep)
       clear hK Kq
       try simp only [Act.put, List.setIfInBounds_toArray, List.set_cons_zero, List.set_cons_succ]
       refine st_one (i := 9) rfl (by kernel_rfl) (by rfl) (fun Kq hK => ?_)
       refine HS2.out.app1 _ _ elemRule rfl rfl ⟨l', r'⟩ [.int .i64 l', .slice A' r'.length c'] rfl (by simp) HRd.out (fun b hb => ⟨Nat.le_of_lt hb.1, hb.2⟩) (by rw [HLx.out]; exact hj99) (by rw [HLx.out]; omega) ?_
       intro v1' w13 hS13 hs13 hf13
       obtain ⟨A13, c13, ev13⟩ := hf13
       rw [HLx.out] at ev13
       subst ev13
       have HS3 := Lib.hid hS13
       clear hS13 hs13
       have q_ := HNb.out HS3.out
       have p7a : w13.cell? ⟨P, 7, none⟩ = some v1 := q_.1.1.trans p7
       have p9a : w13.cell? ⟨P, 9, none⟩ = some v2 := q_.1.2.1.trans p9
       have y0a : w13.cell? ⟨Y, 0, none⟩ = some (.int .i64 l') := q_.1.2.2.1.trans y0
       have y1a : w13.cell? ⟨Y, 1, none⟩ = some (.slice A' r'.length c') := q_.1.2.2.2.trans y1
       have f7a := q_.2.1
       have f9a := q_.2.2.1
       have zPa := q_.2.2.2
       clear q_
       refine hK.out _ _ ?htd9 (fun hHeld => ?rtd9)
       case htd9 => ((try dsimp only); go_keep)
       clear hK Kq
       try simp only [Act.put, List.setIfInBounds_toArray, List.set_cons_zero, List.set_cons_succ]
       refine st_one (i := 16) rfl (by kernel_rfl) (by rfl) (fun Kq hK => ?_)
       refine HS3.out.app2 _ _ elemInt rfl rfl (j : Int) [.int .i64 (j : Int)] rfl (by simp) HRi.out (fun b hb => hb.elim) (by rw [HLi.out]; omega) (by rw [HLi.out]; omega) ?_
       intro v2' w14 hS14 hs14 hf14
       obtain ⟨A14, c14, ev14⟩ := hf14
       rw [HLi.out] at ev14
       subst ev14
       have HS4 := Lib.hid hS14
       clear hS14 hs14
       have q_ := HNb.out HS4.out
       have p7b : w14.cell? ⟨P, 7, none⟩ = some v1 := q_.1.1.trans p7
       have p9b : w14.cell? ⟨P, 9, none⟩ = some v2 := q_.1.2.1.trans p9
       have y0b : w14.cell? ⟨Y, 0, none⟩ = some (.int .i64 l') := q_.1.2.2.1.trans y0
       have y1b : w14.cell? ⟨Y, 1, none⟩ = some (.slice A' r'.length c') := q_.1.2.2.2.trans y1
       have f7b := q_.2.1
       have f9b := q_.2.2.1
       have zPb := q_.2.2.2
       clear q_
       refine hK.out _ _ ?htd16 (fun hHeld => ?rtd16)
       case htd16 => ((try dsimp only); go_keep)
       clear hK Kq
       try simp only [Act.put, List.setIfInBounds_toArray, List.set_cons_zero, List.set_cons_succ]
       refine st_late (i := 17) rfl (by kernel_rfl) (by rfl) (by kernel_rfl) (fun Kq hK => ?_)
       go_simp
       refine hK.out _ _ ?_
       clear hK Kq
       try simp only [Act.put, List.setIfInBounds_toArray, List.set_cons_zero, List.set_cons_succ]
       refine st_pure (i := 18) (v := ?vtd18) rfl (by kernel_rfl) (by kernel_rfl) (by kernel_rfl) (by kernel_rfl) (fun _ _ _ h => h) (by rfl) ?ytd18 (.inr (by kernel_rfl)) ?rtd18
       case ytd18 => (intro w; go_simp; try with_reducible rfl)
       try simp only [Act.put, List.setIfInBounds_toArray, List.set_cons_zero, List.set_cons_succ]
       refine st_pure (i := 19) (v := ?vtd19) rfl (by kernel_rfl) (by kernel_rfl) (by kernel_rfl) (by kernel_rfl) (fun _ _ _ h => h) (by rfl) ?ytd19 (.inr (by kernel_rfl)) ?rtd19
       case ytd19 => (intro w; go_simp; try with_reducible rfl)
       try simp only [Act.put, List.setIfInBounds_toArray, List.set_cons_zero, List.set_cons_succ]
       refine st_late (i := 20) rfl (by kernel_rfl) (by rfl) (by kernel_rfl) (fun Kq hK => ?_)
       go_simp
       refine hK.out _ _ ?_
       clear hK Kq
       try simp only [Act.put, List.setIfInBounds_toArray, List.set_cons_zero, List.set_cons_succ]
       refine st_pure (i := 21) (v := ?vtd21) rfl (by kernel_rfl) (by kernel_rfl) (by kernel_rfl) (by kernel_rfl) (fun _ _ _ h => h) (by rfl) ?ytd21 (.inr (by kernel_rfl)) ?rtd21
       case ytd21 => (intro w; go_simp; try with_reducible rfl)
       try simp only [Act.put, List.setIfInBounds_toArray, List.set_cons_zero, List.set_cons_succ]
       refine st_pure (i := 22) (v := ?vtd22) rfl (by kernel_rfl) (by kernel_rfl) (by kernel_rfl) (by kernel_rfl) (fun _ _ _ h => h) (by rfl) ?ytd22 (.inr (by kernel_rfl)) ?rtd22
       case ytd22 => (intro w; go_simp; try with_reducible rfl)
       try simp only [Act.put, List.setIfInBounds_toArray, List.set_cons_zero, List.set_cons_succ]
       refine st_late (i := 23) rfl (by kernel_rfl) (by rfl) (by kernel_rfl) (fun Kq hK => ?_)
       go_simp
       refine hK.out _ _ ?_
       clear hK Kq
       try simp only [Act.put, List.setIfInBounds_toArray, List.set_cons_zero, List.set_cons_succ]
       refine wpAnyD_done (by kernel_rfl) ?_ _
       refine NoPanic.normal ?_
       go_wp2_with fail
       go_roundw
       case rel =>
        have hT := HS4.out
        have hz := HYZ.out
        have hzz := HPz.out
        have hPB := hz.2.2.1
        have hTB := hz.2.2.2.1
        have hGB := hz.2.2.2.2.1
        have hwP : w.heap.size ≤ P := by omega
        have hTP : ¬ gT = P := by omega
        have hGP : ¬ w.heap.size = P := by omega
        have hnP : ¬ w8.heap.size ≤ P := by omega
        have hs14 := hT.bel.size
        have hs12 := HB12.out.size
        clear hz hzz
        have h2 := (hT.two.set_ (p := ⟨P, 7, none⟩) (fun h => h.elim id hnP) (.slice A13 (j + 1) c13)).set_ (p := ⟨P, 9, none⟩) (fun h => h.elim id hnP) (.slice A14 (j + 1) c14)
        rw [← idxL_snoc, ← HSt.out, ← List.map_singleton, ← List.map_append, ← take_snoc HQ.out] at h2
        have h3 := ((HP12.out.below hT.bel hPB).set_ 7 (.slice A13 (j + 1) c13)).set_ 9 (.slice A14 (j + 1) c14)
        have h4 := ((HT12.out.below hT.bel hTB).far (p := ⟨P, 7, none⟩) hTP (.slice A13 (j + 1) c13)).far (p := ⟨P, 9, none⟩) hTP (.slice A14 (j + 1) c14)
        have h5 := ((HG12.out.below hT.bel hGB).far (p := ⟨P, 7, none⟩) hGP (.slice A13 (j + 1) c13)).far (p := ⟨P, 9, none⟩) hGP (.slice A14 (j + 1) c14)
        have h6 := (((bthen HBo.out HB12.out HBo.out.size).trans (hT.bel.mono (Nat.le_of_lt hGB))).setCell (p := ⟨P, 7, none⟩) hwP (.slice A13 (j + 1) c13)).setCell (p := ⟨P, 9, none⟩) hwP (.slice A14 (j + 1) c14)
        have h7 : w14.heap.size ≤ ((w14.setCell ⟨P, 7, none⟩ (.slice A13 (j + 1) c13)).setCell ⟨P, 9, none⟩ (.slice A14 (j + 1) c14)).heap.size := by simp [World.setCell]
        have h8 := Nat.le_trans HZo.out (Nat.le_trans hs12 (Nat.le_trans hs14 h7))
        clear hs12 hs14 h7 hT
        exact ⟨j + 1, _, _, hjn, by go_num, h2, ⟨h3, h4, h5⟩, h6, h8⟩
       case measure => simp [intOf]; omega
     ·have hj' : j ≤ rs.length := hj
      have hjl : j = rs.length := by omega
      clear hj'
      have HJl := Lib.hid hjl
      subst hjl
      have ht : rs.take rs.length = rs := List.take_length
      have H3 : Hid (Two wo (fun _ => False) w8.heap.size 60 3 v1 v2 (rs.map (strR ⟨(m : Int), (n : Int), gs, rs⟩ n) ++ endR n 0) (idxL rs.length ++ List.replicate 0 (-1))) := Lib.hid (by
       have h := H2.out
       rw [ht] at h
       simpa [endR] using h)
      clear H2 ht hjn hj
      obtain ⟨C, hC⟩ : ∃ C : Nat, C = cntRec ⟨(m : Int), (n : Int), gs, rs⟩ n := ⟨_, rfl⟩
      have hKC : K = n + C := by rw [HK.out, hC]
      have HCC := Lib.hid hC
      clear hC
      have HKC := Lib.hid hKC
      have hC10 : n + C ≤ 10 := by have := HK10.out; omega
      have a1 : wo.cell? ⟨w.heap.size, 1, none⟩ = some (.int .i64 (n : Int)) := HGo.out.cell 1
      have zG : w.heap.size < wo.heap.size := HGo.out.lt
      have hjn : ¬ (rs.length : Int) < (rs.length : Int) := by omega
      clear hKC
      go_wp2_with fail
      clear a1 zG
      go_loopw [12] (fun t wr => LfE ⟨(m : Int), (n : Int), gs, rs⟩ n C w w8.heap.size (LfQ P gT (fun v1 v2 => #[.int .i64 (m : Int), .int .i64 (n : Int), .int .i64 gs, .slice A rs.length c, .int .i64 (m : Int), .int .i64 (K : Int), .int .i64 gs, v1, .slice (some ⟨gT, 0, none⟩) n n, v2]) (icells (tailsL ⟨(m : Int), (n : Int), gs, rs⟩ n n)) (#[.int .i64 (m : Int), .int .i64 (n : Int), .int .i64 gs, .slice A rs.length c]) w.heap.size) t wr) (fun t _ => n + C - (intOf t).toNat)
      case atStart => exact ⟨0, v1, v2, Nat.zero_le _, rfl, H3.out, ⟨HPo.out, HTo.out, HGo.out⟩, HBo.out, HZo.out⟩
      case round =>
       clear HPo HTo HGo HBo H3 HZo
       obtain ⟨wo, hwo⟩ : ∃ wo : World, wo = wr := ⟨_, rfl⟩
       subst hwo
       obtain ⟨i, v1, v2, hi, rfl, htwo, ⟨hP, hT, hG⟩, hBo, hB8o⟩ := hrel
       dsimp only at hP
       have H2 := Lib.hid htwo
       have HPo := Lib.hid hP
       have HTo := Lib.hid hT
       have HGo := Lib.hid hG
       have HBo := Lib.hid hBo
       have HZo := Lib.hid hB8o
       clear htwo hP hT hG hBo hB8o
       by_cases hiC : i < C
       ·have d0 : ((n + i : Nat) : Int) < (K : Int) := by have := HKC.out; omega
        obtain ⟨T, hT⟩ : ∃ T : Nat, T = n + i := ⟨_, rfl⟩
        rw [← hT]
        rw [← hT] at d0
        have HT' := Lib.hid hT
        have hT10 : T ≤ 10 := by omega
        have hwT : IntKind.i64.wrap ((T : Int) + 1) = ((T + 1 : Nat) : Int) := by rw [IntWalk.i64_in _ (by omega)]; omega
        have hzo := HZo.out
        have hPB : P < w8.heap.size := HP8.out.lt
        have hTB : gT < w8.heap.size := HT8.out.lt
        have hGB : w.heap.size < w8.heap.size := HG8.out.lt
        have HS0 : Hid (TwS w8.heap.size wo.heap.size wo.heap.size 60 3 wo wo.drew v1 v2 (rs.map (strR ⟨(m : Int), (n : Int), gs, rs⟩ n) ++ endR n i) (idxL rs.length ++ List.replicate i (-1)) []) :=
         Lib.hid (TwS.start H2.out (fun k hk => (H2.out.1.block k hk).2) (fun k hk => (H2.out.2.1.block k hk).2) hzo (Nat.le_refl _) (Nat.le_refl _)).drew
        have HRd : Hid (Dat.rd wo (fun _ => False) (⟨(T : Int), []⟩ : Rule) [.int .i64 (T : Int), .slice none 0 0]) := Lib.hid ⟨_, rfl, (show I64 ((T : Nat) : Int) by unfold I64; omega), Vl.nil⟩
        have HRi : Hid (Dat.rd wo (fun _ => False) (-1 : Int) [.int .i64 (-1)]) := Lib.hid ⟨rfl, by unfold I64; omega⟩
        obtain ⟨L, hL⟩ : ∃ L : Nat, L = rs.length + i := ⟨_, rfl⟩
        have hL64 : L ≤ 64 := by omega
        have HLx : Hid ((rs.map (strR ⟨(m : Int), (n : Int), gs, rs⟩ n) ++ endR n i).length = L) := Lib.hid (by rw [List.length_append, List.length_map, endR_len, hL])
        have HLi : Hid ((idxL rs.length ++ List.replicate i (-1 : Int)).length = L) := Lib.hid (by rw [List.length_append, idxL_len, List.length_replicate, hL])
        have HNb : Hid (∀ {w' v1 v2 xs ys bx}, TwS (α := Rule) (β := Int) w8.heap.size wo.heap.size wo.heap.size 60 3 wo w' v1 v2 xs ys bx → (w'.cell? ⟨P, 7, none⟩ = wo.cell? ⟨P, 7, none⟩ ∧ w'.cell? ⟨P, 9, none⟩ = wo.cell? ⟨P, 9, none⟩) ∧ w'.frozen? ⟨P, 7, none⟩ = false ∧ w'.frozen? ⟨P, 9, none⟩ = false ∧ P < w'.heap.size) := Lib.hid (fun h =>
         ⟨⟨h.bel.cell (p := ⟨P, 7, none⟩) hPB, h.bel.cell (p := ⟨P, 9, none⟩) hPB⟩, (HPo.out.below h.bel hPB).frozen 7, (HPo.out.below h.bel hPB).frozen 9, (HPo.out.below h.bel hPB).lt⟩)
        have p7 : wo.cell? ⟨P, 7, none⟩ = some v1 := HPo.out.cell 7
        have p9 : wo.cell? ⟨P, 9, none⟩ = some v2 := HPo.out.cell 9
        have zP : P < wo.heap.size := HPo.out.lt
        have HYZ := Lib.hid (And.intro hzo (And.intro hPB (And.intro hTB hGB)))
        have hL99 : (L + 1) * 32 ≤ 140737488355328 := by omega
        clear hzo hPB hTB hGB hL hT
        go_upto_region 32 with (fail)
        refine wp_region_noPanic ?_
        refine stage_start (S := (fun w' => w'.cell? ⟨P, 7, none⟩ = some v1 ∧ w'.cell? ⟨P, 9, none⟩ = some v2)) 17 (by kernel_rfl) ?he (fun hHeld => ?be)
        case he => ((try dsimp only); go_keep)
        refine st_pure (i := 0) (v := ?ve0) rfl (by kernel_rfl) (by kernel_rfl) (by kernel_rfl) (by kernel_rfl) (fun _ _ _ h => h) (by rfl) ?ye0 (.inl (by assumption)) ?re0
        case ye0 => (intro w; go_simp; try with_reducible rfl)
        try simp only [Act.put, List.setIfInBounds_toArray, List.set_cons_zero, List.set_cons_succ]
        refine st_pure (i := 1) (v := ?ve1) rfl (by kernel_rfl) (by kernel_rfl) (by kernel_rfl) (by kernel_rfl) (fun _ _ _ h => h) (by rfl) ?ye1 (.inl (by assumption)) ?re1
        case ye1 => (intro w; go_simp; try with_reducible rfl)
        try simp only [Act.put, List.setIfInBounds_toArray, List.set_cons_zero, List.set_cons_succ]
        refine st_pure (i := 2) (v := ?ve2) rfl (by kernel_rfl) (by kernel_rfl) (by kernel_rfl) (by kernel_rfl) (fun _ _ _ h => h) (by rfl) ?ye2 (.inl (by assumption)) ?re2
        case ye2 => (intro w; go_simp; try with_reducible rfl)
        try simp only [Act.put, List.setIfInBounds_toArray, List.set_cons_zero, List.set_cons_succ]
        refine st_pure (i := 3) (v := ?ve3) rfl (by kernel_rfl) (by kernel_rfl) (by kernel_rfl) (by kernel_rfl) (fun _ _ _ h => h) (by rfl) ?ye3 (.inl (by assumption)) ?re3
        case ye3 => (intro w; go_simp; try with_reducible rfl)
        try simp only [Act.put, List.setIfInBounds_toArray, List.set_cons_zero, List.set_cons_succ]
        refine st_pure (i := 4) (v := ?ve4) rfl (by kernel_rfl) (by kernel_rfl) (by kernel_rfl) (by kernel_rfl) (fun _ _ _ h => h) (by rfl) ?ye4 (.inl (by assumption)) ?re4
        case ye4 => (intro w; go_simp; try with_reducible rfl)
        try simp only [Act.put, List.setIfInBounds_toArray, List.set_cons_zero, List.set_cons_succ]
        refine st_pure (i := 5) (v := ?ve5) rfl (by kernel_rfl) (by kernel_rfl) (by kernel_rfl) (by kernel_rfl) (fun _ _ _ h => h) (by rfl) ?ye5 (.inl (by assumption)) ?re5
        case ye5 => (intro w; go_simp; try with_reducible rfl)
        try simp only [Act.put, List.setIfInBounds_toArray, List.set_cons_zero, List.set_cons_succ]
        refine st_run (i := 6) (v := ?ve6) rfl (by kernel_rfl) (by kernel_rfl) (by kernel_rfl) (by kernel_rfl) (fun _ _ _ h => h) (by rfl) ?ye6 (by assumption) ?re6
        case ye6 => (intro w hSw; (try dsimp only at hSw); go_simp; try with_reducible rfl)
        try simp only [Act.put, List.setIfInBounds_toArray, List.set_cons_zero, List.set_cons_succ]
        refine st_pure (i := 7) (v := ?ve7) rfl (by kernel_rfl) (by kernel_rfl) (by kernel_rfl) (by kernel_rfl) (fun _ _ _ h => h) (by rfl) ?ye7 (.inl (by assumption)) ?re7
        case ye7 => (intro w; go_simp; try with_reducible rfl)
        try simp only [Act.put, List.setIfInBounds_toArray, List.set_cons_zero, List.set_cons_succ]
        refine st_pure (i := 8) (v := ?ve8) rfl (by kernel_rfl) (by kernel_rfl) (by kernel_rfl) (by kernel_rfl) (fun _ _ _ h => h) (by rfl) ?ye8 (.inl (by assumption)) ?re8
        case ye8 => (intro w; go_simp; try with_reducible rfl)
        try simp only [Act.put, List.setIfInBounds_toArray, List.set_cons_zero, List.set_cons_succ]
        refine st_pure (i := 11) (v := ?ve11) rfl (by kernel_rfl) (by kernel_rfl) (by kernel_rfl) (by kernel_rfl) (fun _ _ _ h => h) (by rfl) ?ye11 (.inl (by assumption)) ?re11
        case ye11 => (intro w; go_simp; try with_reducible rfl)
        try simp only [Act.put, List.setIfInBounds_toArray, List.set_cons_zero, List.set_cons_succ]
        refine st_pure (i := 12) (v := ?ve12) rfl (by kernel_rfl) (by kernel_rfl) (by kernel_rfl) (by kernel_rfl) (fun _ _ _ h => h) (by rfl) ?ye12 (.inl (by assumption)) ?re12
        case ye12 => (intro w; go_simp; try with_reducible rfl)
        try simp only [Act.put, List.setIfInBounds_toArray, List.set_cons_zero, List.set_cons_succ]
        refine st_pure (i := 13) (v := ?ve13) rfl (by kernel_rfl) (by kernel_rfl) (by kernel_rfl) (by kernel_rfl) (fun _ _ _ h => h) (by rfl) ?ye13 (.inl (by assumption)) ?re13
        case ye13 => (intro w; go_simp; try with_reducible rfl)
        try simp only [Act.put, List.setIfInBounds_toArray, List.set_cons_zero, List.set_cons_succ]
        refine st_run (i := 14) (v := ?ve14) rfl (by kernel_rfl) (by kernel_rfl) (by kernel_rfl) (by kernel_rfl) (fun _ _ _ h => h) (by rfl) ?ye14 (by assumption) ?re14
        case ye14 => (intro w hSw; (try dsimp only at hSw); go_simp; try with_reducible rfl)
        try simp only [Act.put, List.setIfInBounds_toArray, List.set_cons_zero, List.set_cons_succ]
        refine st_two (i := 9) (j := 15) rfl rfl (by kernel_rfl) (by rfl) (by rfl) (fun Kq hK => ?onezn9) (fun Kq hK => ?twozn9)
        case onezn9 =>
         have HS1 := Lib.hid (HS0.out.boxed [.int .i64 (T : Int), .slice none 0 0] 60 (by simp))
         go_simp
         refine hK.out _ _ ?hza9 (fun hHeld => ?rza9)
         case hza9 => ((try dsimp only); go_keep)
         clear hK Kq
         try simp only [Act.put, List.setIfInBounds_toArray, List.set_cons_zero, List.set_cons_succ]
         refine st_two (i := 10) (j := 15) rfl rfl (by kernel_rfl) (by rfl) (by rfl) (fun Kq hK => ?onezm10) (fun Kq hK => ?twozm10)
         case onezm10 =>
          refine HS1.out.app1 _ _ elemRule rfl rfl ⟨(T : Int), []⟩ [.int .i64 (T : Int), .slice none 0 0] rfl (by simp) HRd.out (fun b hb => hb.elim) (by rw [HLx.out]; exact hL99) (by rw [HLx.out]; omega) ?_
          intro v1' w13 hS13 hs13 hf13
          obtain ⟨A13, c13, ev13⟩ := hf13
          rw [HLx.out] at ev13
          subst ev13
          have HS2 := Lib.hid hS13
          clear hS13 hs13
          have q_ := HNb.out HS2.out
          have p7a : w13.cell? ⟨P, 7, none⟩ = some v1 := q_.1.1.trans p7
          have p9a : w13.cell? ⟨P, 9, none⟩ = some v2 := q_.1.2.trans p9
          have f7a := q_.2.1
          have f9a := q_.2.2.1
          have zPa := q_.2.2.2
          clear q_
          refine hK.out _ _ ?hzb10 (fun hHeld => ?rzb10)
          case hzb10 => ((try dsimp only); go_keep)
          clear hK Kq
          try simp only [Act.put, List.setIfInBounds_toArray, List.set_cons_zero, List.set_cons_succ]
          refine st_one (i := 15) rfl (by kernel_rfl) (by rfl) (fun Kq hK => ?_)
          have HS3 := Lib.hid (HS2.out.boxed [.int .i64 (-1)] 3 (by simp))
          go_simp
          refine hK.out _ _ ?hzb15 (fun hHeld => ?rzb15)
          case hzb15 => ((try dsimp only); go_keep)
          clear hK Kq
          try simp only [Act.put, List.setIfInBounds_toArray, List.set_cons_zero, List.set_cons_succ]
          refine st_one (i := 16) rfl (by kernel_rfl) (by rfl) (fun Kq hK => ?_)
          refine HS3.out.app2 _ _ elemInt rfl rfl (-1 : Int) [.int .i64 (-1)] rfl (by simp) HRi.out (fun b hb => hb.elim) (by rw [HLi.out]; omega) (by rw [HLi.out]; omega) ?_
          intro v2' w14 hS14 hs14 hf14
          obtain ⟨A14, c14, ev14⟩ := hf14
          rw [HLi.out] at ev14
          subst ev14
          have HS4 := Lib.hid hS14
          clear hS14 hs14
          have q_ := HNb.out HS4.out
          have p7b : w14.cell? ⟨P, 7, none⟩ = some v1 := q_.1.1.trans p7
          have p9b : w14.cell? ⟨P, 9, none⟩ = some v2 := q_.1.2.trans p9
          have f7b := q_.2.1
          have f9b := q_.2.2.1
          have zPb := q_.2.2.2
          clear q_
          refine hK.out _ _ ?hzb16 (fun hHeld => ?rzb16)
          case hzb16 => ((try dsimp only); go_keep)
          clear hK Kq
          try simp only [Act.put, List.setIfInBounds_toArray, List.set_cons_zero, List.set_cons_succ]
          refine st_late (i := 17) rfl (by kernel_rfl) (by rfl) (by kernel_rfl) (fun Kq hK => ?_)
          go_simp
          refine hK.out _ _ ?_
          clear hK Kq
          try simp only [Act.put, List.setIfInBounds_toArray, List.set_cons_zero, List.set_cons_succ]
          refine st_pure (i := 18) (v := ?vzb18) rfl (by kernel_rfl) (by kernel_rfl) (by kernel_rfl) (by kernel_rfl) (fun _ _ _ h => h) (by rfl) ?yzb18 (.inr (by kernel_rfl)) ?rzb18
          case yzb18 => (intro w; go_simp; try with_reducible rfl)
          try simp only [Act.put, List.setIfInBounds_toArray, List.set_cons_zero, List.set_cons_succ]
          refine st_pure (i := 19) (v := ?vzb19) rfl (by kernel_rfl) (by kernel_rfl) (by kernel_rfl) (by kernel_rfl) (fun _ _ _ h => h) (by rfl) ?yzb19 (.inr (by kernel_rfl)) ?rzb19
          case yzb19 => (intro w; go_simp; try with_reducible rfl)
          try simp only [Act.put, List.setIfInBounds_toArray, List.set_cons_zero, List.set_cons_succ]
          refine st_late (i := 20) rfl (by kernel_rfl) (by rfl) (by kernel_rfl) (fun Kq hK => ?_)
          go_simp
          refine hK.out _ _ ?_
          clear hK Kq
          try simp only [Act.put, List.setIfInBounds_toArray, List.set_cons_zero, List.set_cons_succ]
          refine st_pure (i := 21) (v := ?vzb21) rfl (by kernel_rfl) (by kernel_rfl) (by kernel_rfl) (by kernel_rfl) (fun _ _ _ h => h) (by rfl) ?yzb21 (.inr (by kernel_rfl)) ?rzb21
          case yzb21 => (intro w; go_simp; try with_reducible rfl)
          try simp only [Act.put, List.setIfInBounds_toArray, List.set_cons_zero, List.set_cons_succ]
          refine st_pure (i := 22) (v := ?vzb22) rfl (by kernel_rfl) (by kernel_rfl) (by kernel_rfl) (by kernel_rfl) (fun _ _ _ h => h) (by rfl) ?yzb22 (.inr (by kernel_rfl)) ?rzb22
          case yzb22 => (intro w; go_simp; try with_reducible rfl)
          try simp only [Act.put, List.setIfInBounds_toArray, List.set_cons_zero, List.set_cons_succ]
          refine st_late (i := 23) rfl (by kernel_rfl) (by rfl) (by kernel_rfl) (fun Kq hK => ?_)
          go_simp
          refine hK.out _ _ ?_
          clear hK Kq
          try simp only [Act.put, List.setIfInBounds_toArray, List.set_cons_zero, List.set_cons_succ]
          refine wpAnyD_done (by kernel_rfl) ?_ _
          refine NoPanic.normal ?_
          go_wp2_with fail
          go_roundw
          case rel =>
           have hT := HS4.out
           have hz := HYZ.out
           have hzz := HPz.out
           have hPB := hz.2.1
           have hTB := hz.2.2.1
           have hGB := hz.2.2.2
           have hwP : w.heap.size ≤ P := by omega
           have hTP : ¬ gT = P := by omega
           have hGP : ¬ w.heap.size = P := by omega
           have hnP : ¬ w8.heap.size ≤ P := by omega
           have hs14 := hT.bel.size
           clear hz hzz
           have h2 := (hT.two.set_ (p := ⟨P, 7, none⟩) (fun h => h.elim id hnP) (.slice A13 (L + 1) c13)).set_ (p := ⟨P, 9, none⟩) (fun h => h.elim id hnP) (.slice A14 (L + 1) c14)
           rw [List.append_assoc, List.append_assoc, HT'.out, ← endR_snoc, show List.replicate i (-1 : Int) ++ [-1] = List.replicate (i + 1) (-1) from (List.replicate_succ').symm] at h2
           have h3 := ((HPo.out.below hT.bel hPB).set_ 7 (.slice A13 (L + 1) c13)).set_ 9 (.slice A14 (L + 1) c14)
           have h4 := ((HTo.out.below hT.bel hTB).far (p := ⟨P, 7, none⟩) hTP (.slice A13 (L + 1) c13)).far (p := ⟨P, 9, none⟩) hTP (.slice A14 (L + 1) c14)
           have h5 := ((HGo.out.below hT.bel hGB).far (p := ⟨P, 7, none⟩) hGP (.slice A13 (L + 1) c13)).far (p := ⟨P, 9, none⟩) hGP (.slice A14 (L + 1) c14)
           have h6 := ((HBo.out.trans (hT.bel.mono (Nat.le_of_lt hGB))).setCell (p := ⟨P, 7, none⟩) hwP (.slice A13 (L + 1) c13)).setCell (p := ⟨P, 9, none⟩) hwP (.slice A14 (L + 1) c14)
           have h7 : w14.heap.size ≤ ((w14.setCell ⟨P, 7, none⟩ (.slice A13 (L + 1) c13)).setCell ⟨P, 9, none⟩ (.slice A14 (L + 1) c14)).heap.size := by simp [World.setCell]
           have h8 := Nat.le_trans HZo.out (Nat.le_trans hs14 h7)
           have h9 : ((T + 1 : Nat) : Int) = ((n + (i + 1) : Nat) : Int) := by have := HT'.out; omega
           clear hs14 h7 hT
           exact ⟨i + 1, _, _, hiC, congrArg (Value.int .i64) h9, h2, ⟨h3, h4, h5⟩, h6, h8⟩
          case measure => (have := HT'.out; simp [intOf]; omega)
         case twozm10 =>
          have HS2 := Lib.hid (HS1.out.boxed [.int .i64 (-1)] 3 (by simp))
          go_simp
          refine hK.out _ _ ?hzc15 (fun hHeld => ?rzc15)
          case hzc15 => ((try dsimp only); go_keep)
          clear hK Kq
          try simp only [Act.put, List.setIfInBounds_toArray, List.set_cons_zero, List.set_cons_succ]
          refine st_one (i := 10) rfl (by kernel_rfl) (by rfl) (fun Kq hK => ?_)
          refine HS2.out.app1 _ _ elemRule rfl rfl ⟨(T : Int), []⟩ [.int .i64 (T : Int), .slice none 0 0] rfl (by simp) HRd.out (fun b hb => hb.elim) (by rw [HLx.out]; exact hL99) (by rw [HLx.out]; omega) ?_
          intro v1' w13 hS13 hs13 hf13
          obtain ⟨A13, c13, ev13⟩ := hf13
          rw [HLx.out] at ev13
          subst ev13
          have HS3 := Lib.hid hS13
          clear hS13 hs13
          have q_ := HNb.out HS3.out
          have p7a : w13.cell? ⟨P, 7, none⟩ = some v1 := q_.1.1.trans p7
          have p9a : w13.cell? ⟨P, 9, none⟩ = some v2 := q_.1.2.trans p9
          have f7a := q_.2.1
          have f9a := q_.2.2.1
          have zPa := q_.2.2.2
          clear q_
          refine hK.out _ _ ?hzc10 (fun hHeld => ?rzc10)
          case hzc10 => ((try dsimp only); go_keep)
          clear hK Kq
          try simp only [Act.put, List.setIfInBounds_toArray, List.set_cons_zero, List.set_cons_succ]
          refine st_one (i := 16) rfl (by kernel_rfl) (by rfl) (fun Kq hK => ?_)
          refine HS3.out.app2 _ _ elemInt rfl rfl (-1 : Int) [.int .i64 (-1)] rfl (by simp) HRi.out (fun b hb => hb.elim) (by rw [HLi.out]; omega) (by rw [HLi.out]; omega) ?_
          intro v2' w14 hS14 hs14 hf14
          obtain ⟨A14, c14, ev14⟩ := hf14
          rw [HLi.out] at ev14
          subst ev14
          have HS4 := Lib.hid hS14
          clear hS14 hs14
          have q_ := HNb.out HS4.out
          have p7b : w14.cell? ⟨P, 7, none⟩ = some v1 := q_.1.1.trans p7
          have p9b : w14.cell? ⟨P, 9, none⟩ = some v2 := q_.1.2.trans p9
          have f7b := q_.2.1
          have f9b := q_.2.2.1
          have zPb := q_.2.2.2
          clear q_
          refine hK.out _ _ ?hzc16 (fun hHeld => ?rzc16)
          case hzc16 => ((try dsimp only); go_keep)
          clear hK Kq
          try simp only [Act.put, List.setIfInBounds_toArray, List.set_cons_zero, List.set_cons_succ]
          refine st_late (i := 17) rfl (by kernel_rfl) (by rfl) (by kernel_rfl) (fun Kq hK => ?_)
          go_simp
          refine hK.out _ _ ?_
          clear hK Kq
          try simp only [Act.put, List.setIfInBounds_toArray, List.set_cons_zero, List.set_cons_succ]
          refine st_pure (i := 18) (v := ?vzc18) rfl (by kernel_rfl) (by kernel_rfl) (by kernel_rfl) (by kernel_rfl) (fun _ _ _ h => h) (by rfl) ?yzc18 (.inr (by kernel_rfl)) ?rzc18
          case yzc18 => (intro w; go_simp; try with_reducible rfl)
          try simp only [Act.put, List.setIfInBounds_toArray, List.set_cons_zero, List.set_cons_succ]
          refine st_pure (i := 19) (v := ?vzc19) rfl (by kernel_rfl) (by kernel_rfl) (by kernel_rfl) (by kernel_rfl) (fun _ _ _ h => h) (by rfl) ?yzc19 (.inr (by kernel_rfl)) ?rzc19
          case yzc19 => (intro w; go_simp; try with_reducible rfl)
          try simp only [Act.put, List.setIfInBounds_toArray, List.set_cons_zero, List.set_cons_succ]
          refine st_late (i := 20) rfl (by kernel_rfl) (by rfl) (by kernel_rfl) (fun Kq hK => ?_)
          go_simp
          refine hK.out _ _ ?_
          clear hK Kq
          try simp only [Act.put, List.setIfInBounds_toArray, List.set_cons_zero, List.set_cons_succ]
          refine st_pure (i := 21) (v := ?vzc21) rfl (by kernel_rfl) (by kernel_rfl) (by kernel_rfl) (by kernel_rfl) (fun _ _ _ h => h) (by rfl) ?yzc21 (.inr (by kernel_rfl)) ?rzc21
          case yzc21 => (intro w; go_simp; try with_reducible rfl)
          try simp only [Act.put, List.setIfInBounds_toArray, List.set_cons_zero, List.set_cons_succ]
          refine st_pure (i := 22) (v := ?vzc22) rfl (by kernel_rfl) (by kernel_rfl) (by kernel_rfl) (by kernel_rfl) (fun _ _ _ h => h) (by rfl) ?yzc22 (.inr (by kernel_rfl)) ?rzc22
          case yzc22 => (intro w; go_simp; try with_reducible rfl)
          try simp only [Act.put, List.setIfInBounds_toArray, List.set_cons_zero, List.set_cons_succ]
          refine st_late (i := 23) rfl (by kernel_rfl) (by rfl) (by kernel_rfl) (fun Kq hK => ?_)
          go_simp
          refine hK.out _ _ ?_
          clear hK Kq
          try simp only [Act.put, List.setIfInBounds_toArray, List.set_cons_zero, List.set_cons_succ]
          refine wpAnyD_done (by kernel_rfl) ?_ _
          refine NoPanic.normal ?_
          go_wp2_with fail
          go_roundw
          case rel =>
           have hT := HS4.out
           have hz := HYZ.out
           have hzz := HPz.out
           have hPB := hz.2.1
           have hTB := hz.2.2.1
           have hGB := hz.2.2.2
           have hwP : w.heap.size ≤ P := by omega
           have hTP : ¬ gT = P := by omega
           have hGP : ¬ w.heap.size = P := by omega
           have hnP : ¬ w8.heap.size ≤ P := by omega
           have hs14 := hT.bel.size
           clear hz hzz
           have h2 := (hT.two.set_ (p := ⟨P, 7, none⟩) (fun h => h.elim id hnP) (.slice A13 (L + 1) c13)).set_ (p := ⟨P, 9, none⟩) (fun h => h.elim id hnP) (.slice A14 (L + 1) c14)
           rw [List.append_assoc, List.append_assoc, HT'.out, ← endR_snoc, show List.replicate i (-1 : Int) ++ [-1] = List.replicate (i + 1) (-1) from (List.replicate_succ').symm] at h2
           have h3 := ((HPo.out.below hT.bel hPB).set_ 7 (.slice A13 (L + 1) c13)).set_ 9 (.slice A14 (L + 1) c14)
           have h4 := ((HTo.out.below hT.bel hTB).far (p := ⟨P, 7, none⟩) hTP (.slice A13 (L + 1) c13)).far (p := ⟨P, 9, none⟩) hTP (.slice A14 (L + 1) c14)
           have h5 := ((HGo.out.below hT.bel hGB).far (p := ⟨P, 7, none⟩) hGP (.slice A13 (L + 1) c13)).far (p := ⟨P, 9, none⟩) hGP (.slice A14 (L + 1) c14)
           have h6 := ((HBo.out.trans (hT.bel.mono (Nat.le_of_lt hGB))).setCell (p := ⟨P, 7, none⟩) hwP (.slice A13 (L + 1) c13)).setCell (p := ⟨P, 9, none⟩) hwP (.slice A14 (L + 1) c14)
           have h7 : w14.heap.size ≤ ((w14.setCell ⟨P, 7, none⟩ (.slice A13 (L + 1) c13)).setCell ⟨P, 9, none⟩ (.slice A14 (L + 1) c14)).heap.size := by simp [World.setCell]
           have h8 := Nat.le_trans HZo.out (Nat.le_trans hs14 h7)
           have h9 : ((T + 1 : Nat) : Int) = ((n + (i + 1) : Nat) : Int) := by have := HT'.out; omega
           clear hs14 h7 hT
           exact ⟨i + 1, _, _, hiC, congrArg (Value.int .i64) h9, h2, ⟨h3, h4, h5⟩, h6, h8⟩
          case measure => (have := HT'.out; simp [intOf]; omega)
        case twozn9 =>
         have HS1 := Lib.hid (HS0.out.boxed [.int .i64 (-1)] 3 (by simp))
         go_simp
         refine hK.out _ _ ?hzd15 (fun hHeld => ?rzd15)
         case hzd15 => ((try dsimp only); go_keep)
         clear hK Kq
         try simp only [Act.put, List.setIfInBounds_toArray, List.set_cons_zero, List.set_cons_succ]
         refine st_one (i := 9) rfl (by kernel_rfl) (by rfl) (fun Kq hK => ?_)
         have HS2 := Lib.hid (HS1.out.boxed [.int .i64 (T : Int), .slice none 0 0] 60 (by simp))
         go_simp
         refine hK.out _ _ ?hzd9 (fun hHeld => ?rzd9)
         case hzd9 => ((try dsimp only); go_keep)
         clear hK Kq
         try simp only [Act.put, List.setIfInBounds_toArray, List.set_cons_zero, List.set_cons_succ]
         refine st_one (i := 10) rfl (by kernel_rfl) (by rfl) (fun Kq hK => ?_)
         refine HS2.out.app1 _ _ elemRule rfl rfl ⟨(T : Int), []⟩ [.int .i64 (T : Int), .slice none 0 0] rfl (by simp) HRd.out (fun b hb => hb.elim) (by rw [HLx.out]; exact hL99) (by rw [HLx.out]; omega) ?_
         intro v1' w13 hS13 hs13 hf13
         obtain ⟨A13, c13, ev13⟩ := hf13
         rw [HLx.out] at ev13
         subst ev13
         have HS3 := Lib.hid hS13
         clear hS13 hs13
         have q_ := HNb.out HS3.out
         have p7a : w13.cell? ⟨P, 7, none⟩ = some v1 := q_.1.1.trans p7
         have p9a : w13.cell? ⟨P, 9, none⟩ = some v2 := q_.1.2.trans p9
         have f7a := q_.2.1
         have f9a := q_.2.2.1
         have zPa := q_.2.2.2
         clear q_
         refine hK.out _ _ ?hzd10 (fun hHeld => ?rzd10)
         case hzd10 => ((try dsimp only); go_keep)
         clear hK Kq
         try simp only [Act.put, List.setIfInBounds_toArray, List.set_cons_zero, List.set_cons_succ]
         refine st_one (i := 16) rfl (by kernel_rfl) (by rfl) (fun Kq hK => ?_)
         refine HS3.out.app2 _ _ elemInt rfl rfl (-1 : Int) [.int .i64 (-1)] rfl (by simp) HRi.out (fun b hb => hb.elim) (by rw [HLi.out]; omega) (by rw [HLi.out]; omega) ?_
         intro v2' w14 hS14 hs14 hf14
         obtain ⟨A14, c14, ev14⟩ := hf14
         rw [HLi.out] at ev14
         subst ev14
         have HS4 := Lib.hid hS14
         clear hS14 hs14
         have q_ := HNb.out HS4.out
         have p7b : w14.cell? ⟨P, 7, none⟩ = some v1 := q_.1.1.trans p7
         have p9b : w14.cell? ⟨P, 9, none⟩ = some v2 := q_.1.2.trans p9
         have f7b := q_.2.1
         have f9b := q_.2.2.1
         have zPb := q_.2.2.2
         clear q_
         refine hK.out _ _ ?hzd16 (fun hHeld => ?rzd16)
         case hzd16 => ((try dsimp only); go_keep)
         clear hK Kq
         try simp only [Act.put, List.setIfInBounds_toArray, List.set_cons_zero, List.set_cons_succ]
         refine st_late (i := 17) rfl (by kernel_rfl) (by rfl) (by kernel_rfl) (fun Kq hK => ?_)
         go_simp
         refine hK.out _ _ ?_
         clear hK Kq
         try simp only [Act.put, List.setIfInBounds_toArray, List.set_cons_zero, List.set_cons_succ]
         refine st_pure (i := 18) (v := ?vzd18) rfl (by kernel_rfl) (by kernel_rfl) (by kernel_rfl) (by kernel_rfl) (fun _ _ _ h => h) (by rfl) ?yzd18 (.inr (by kernel_rfl)) ?rzd18
         case yzd18 => (intro w; go_simp; try with_reducible rfl)
         try simp only [Act.put, List.setIfInBounds_toArray, List.set_cons_zero, List.set_cons_succ]
         refine st_pure (i := 19) (v := ?vzd19) rfl (by kernel_rfl) (by kernel_rfl) (by kernel_rfl) (by kernel_rfl) (fun _ _ _ h => h) (by rfl) ?yzd19 (.inr (by kernel_rfl)) ?rzd19
         case yzd19 => (intro w; go_simp; try with_reducible rfl)
         try simp only [Act.put, List.setIfInBounds_toArray, List.set_cons_zero, List.set_cons_succ]
         refine st_late (i := 20) rfl (by kernel_rfl) (by rfl) (by kernel_rfl) (fun Kq hK => ?_)
         go_simp
         refine hK.out _ _ ?_
         clear hK Kq
         try simp only [Act.put, List.setIfInBounds_toArray, List.set_cons_zero, List.set_cons_succ]
         refine st_pure (i := 21) (v := ?vzd21) rfl (by kernel_rfl) (by kernel_rfl) (by kernel_rfl) (by kernel_rfl) (fun _ _ _ h => h) (by rfl) ?yzd21 (.inr (by kernel_rfl)) ?rzd21
         case yzd21 => (intro w; go_simp; try with_reducible rfl)
         try simp only [Act.put, List.setIfInBounds_toArray, List.set_cons_zero, List.set_cons_succ]
         refine st_pure (i := 22) (v := ?vzd22) rfl (by kernel_rfl) (by kernel_rfl) (by kernel_rfl) (by kernel_rfl) (fun _ _ _ h => h) (by rfl) ?yzd22 (.inr (by kernel_rfl)) ?rzd22
         case yzd22 => (intro w; go_simp; try with_reducible rfl)
         try simp only [Act.put, List.setIfInBounds_toArray, List.set_cons_zero, List.set_cons_succ]
         refine st_late (i := 23) rfl (by kernel_rfl) (by rfl) (by kernel_rfl) (fun Kq hK => ?_)
         go_simp
         refine hK.out _ _ ?_
         clear hK Kq
         try simp only [Act.put, List.setIfInBounds_toArray, List.set_cons_zero, List.set_cons_succ]
         refine wpAnyD_done (by kernel_rfl) ?_ _
         refine NoPanic.normal ?_
         go_wp2_with fail
         go_roundw
         case rel =>
          have hT := HS4.out
          have hz := HYZ.out
          have hzz := HPz.out
          have hPB := hz.2.1
          have hTB := hz.2.2.1
          have hGB := hz.2.2.2
          have hwP : w.heap.size ≤ P := by omega
          have hTP : ¬ gT = P := by omega
          have hGP : ¬ w.heap.size = P := by omega
          have hnP : ¬ w8.heap.size ≤ P := by omega
          have hs14 := hT.bel.size
          clear hz hzz
          have h2 := (hT.two.set_ (p := ⟨P, 7, none⟩) (fun h => h.elim id hnP) (.slice A13 (L + 1) c13)).set_ (p := ⟨P, 9, none⟩) (fun h => h.elim id hnP) (.slice A14 (L + 1) c14)
          rw [List.append_assoc, List.append_assoc, HT'.out, ← endR_snoc, show List.replicate i (-1 : Int) ++ [-1] = List.replicate (i + 1) (-1) from (List.replicate_succ').symm] at h2
          have h3 := ((HPo.out.below hT.bel hPB).set_ 7 (.slice A13 (L + 1) c13)).set_ 9 (.slice A14 (L + 1) c14)
          have h4 := ((HTo.out.below hT.bel hTB).far (p := ⟨P, 7, none⟩) hTP (.slice A13 (L + 1) c13)).far (p := ⟨P, 9, none⟩) hTP (.slice A14 (L + 1) c14)
          have h5 := ((HGo.out.below hT.bel hGB).far (p := ⟨P, 7, none⟩) hGP (.slice A13 (L + 1) c13)).far (p := ⟨P, 9, none⟩) hGP (.slice A14 (L + 1) c14)
          have h6 := ((HBo.out.trans (hT.bel.mono (Nat.le_of_lt hGB))).setCell (p := ⟨P, 7, none⟩) hwP (.slice A13 (L + 1) c13)).setCell (p := ⟨P, 9, none⟩) hwP (.slice A14 (L + 1) c14)
          have h7 : w14.heap.size ≤ ((w14.setCell ⟨P, 7, none⟩ (.slice A13 (L + 1) c13)).setCell ⟨P, 9, none⟩ (.slice A14 (L + 1) c14)).heap.size := by simp [World.setCell]
          have h8 := Nat.le_trans HZo.out (Nat.le_trans hs14 h7)
          have h9 : ((T + 1 : Nat) : Int) = ((n + (i + 1) : Nat) : Int) := by have := HT'.out; omega
          clear hs14 h7 hT
          exact ⟨i + 1, _, _, hiC, congrArg (Value.int .i64) h9, h2, ⟨h3, h4, h5⟩, h6, h8⟩
         case measure => (have := HT'.out; simp [intOf]; omega)
       ·have hi' : i = C := by omega
        subst hi'
        have d0 : ¬ ((n + i : Nat) : Int) < (K : Int) := by have := HKC.out; omega
        obtain ⟨A1, c1, rfl, q11, q12, _⟩ := H2.out.1.form
        obtain ⟨A2, c2, rfl, q21, q22, _⟩ := H2.out.2.1.form
        obtain ⟨xs, hxs⟩ : ∃ xs : List Rule, xs = rs.map (strR ⟨(m : Int), (n : Int), gs, rs⟩ n) ++ endR n i := ⟨_, rfl⟩
        obtain ⟨fs, hfs⟩ : ∃ fs : List Int, fs = idxL rs.length ++ List.replicate i (-1) := ⟨_, rfl⟩
        rw [← hxs] at q11 H2 HPo
        rw [← hfs] at q21 H2 HPo
        have hsg : strG ⟨(m : Int), (n : Int), gs, rs⟩ n = ⟨(m : Int), (K : Int), gs, xs⟩ := by
         have h := HKC.out
         unfold strG
         dsimp only
         rw [← HCC.out, ← hxs, ← h]
        have hfg : fromL ⟨(m : Int), (n : Int), gs, rs⟩ n = fs := by
         unfold fromL
         dsimp only
         rw [← HCC.out, ← hfs]
        have HSG := Lib.hid hsg
        have HFG := Lib.hid hfg
        have hE1 := H2.out.vl1.els.2.2.2
        have hE2 := H2.out.vl2.els.2.2.2
        have HE1 := Lib.hid hE1
        have HE2 := Lib.hid hE2
        have hb := HZo.out
        have hwP : w.heap.size ≤ P := by have := HPz.out; omega
        have hwT : w.heap.size ≤ gT := by have := HPz.out; omega
        have hPz := HPz.out
        have hw8 : w.heap.size < w8.heap.size := HG8.out.lt
        have HLen := Lib.hid (show n + cntRec ⟨(m : Int), (n : Int), gs, rs⟩ n ≤ 10 by have := HK.out; have := HK10.out; omega)
        have p4 : wo.cell? ⟨P, 4, none⟩ = some (.int .i64 (m : Int)) := HPo.out.cell 4
        have p5 : wo.cell? ⟨P, 5, none⟩ = some (.int .i64 (K : Int)) := HPo.out.cell 5
        have p6 : wo.cell? ⟨P, 6, none⟩ = some (.int .i64 gs) := HPo.out.cell 6
        have p7 : wo.cell? ⟨P, 7, none⟩ = some (.slice A1 xs.length c1) := HPo.out.cell 7
        have zP : P < wo.heap.size := HPo.out.lt
        have hS1 : ∀ b, ((fun _ => False) b ∨ w8.heap.size ≤ b) ∧ b < wo.heap.size → b < wo.heap.size := fun b hb => hb.2
        clear hxs hfs hsg hfg hE1 hE2 hC10
        go_wp2_with fail
        refine (check_any ⟨(m : Int), (K : Int), gs, xs⟩ A1 c1 _ wo q11 q12 HE1.out).mono ?_
        rintro e w15 ⟨rfl, hb15⟩
        obtain ⟨E, hE⟩ : ∃ E : Int, E = checkI ⟨(m : Int), (K : Int), gs, xs⟩ := ⟨_, rfl⟩
        rw [← hE]
        have HEE := Lib.hid hE
        have HB15 := Lib.hid (bthen HBo.out hb15 HBo.out.size)
        have HP15 := Lib.hid (HPo.out.below hb15 HPo.out.lt)
        have HT15 := Lib.hid (HTo.out.below hb15 HTo.out.lt)
        have HE15 := Lib.hid (HE1.out.below hb15)
        have HF15 := Lib.hid (HE2.out.below hb15)
        have hz15 := hb15.size
        clear p4 p5 p6 p7 zP hb15 hE
        by_cases hE0 : E = 0
        ·have HE0 := Lib.hid (show checkI ⟨(m : Int), (K : Int), gs, xs⟩ = 0 by rw [← HEE.out]; exact hE0)
         have e0 : (E != 0) = false := by simp [hE0]
         have hvK := validG_of HE0.out
         have HVK := Lib.hid hvK
         subst hE0
         have p4 : w15.cell? ⟨P, 4, none⟩ = some (.int .i64 (m : Int)) := HP15.out.cell 4
         have p5 : w15.cell? ⟨P, 5, none⟩ = some (.int .i64 (K : Int)) := HP15.out.cell 5
         have p6 : w15.cell? ⟨P, 6, none⟩ = some (.int .i64 gs) := HP15.out.cell 6
         have p7 : w15.cell? ⟨P, 7, none⟩ = some (.slice A1 xs.length c1) := HP15.out.cell 7
         have zP : P < w15.heap.size := HP15.out.lt
         clear hvK
         go_wp2_with fail
         refine (recur_any ⟨(m : Int), (K : Int), gs, xs⟩ m K A1 c1 _ w15 rfl rfl HE0.out q11 q12 HE15.out (fun b hb => by have := hb.2; omega)).mono ?_
         rintro e w16 ⟨v, l, rfl, hF, hown, hb16⟩
         obtain ⟨Al, cl, rfl, _, _, _⟩ := hown.form
         have HFl := Lib.hid hF
         have HB16 := Lib.hid (bthen HB15.out hb16 HB15.out.size)
         have HP16 := Lib.hid (HP15.out.below hb16 HP15.out.lt)
         have HT16 := Lib.hid (HT15.out.below hb16 HT15.out.lt)
         have HE16 := Lib.hid (HE15.out.below hb16)
         have HF16 := Lib.hid (HF15.out.below hb16)
         have hz16 := hb16.size
         clear hF hown hb16 p4 p5 p6 p7 zP
         cases l with
         | nil =>
          have hno : ∀ a, ¬ Plus (LedE (strG ⟨(m : Int), (n : Int), gs, rs⟩ n)) a a := by
           rw [HSG.out]
           intro a ha
           exact FiltIs.none K [] HFl.out rfl a (led_lt HVK.out rfl ha) ha
          have HOk : Hid (StrOk ⟨(m : Int), (n : Int), gs, rs⟩ n) := Lib.hid ⟨HNo.out, HLen.out, by rw [HSG.out]; exact HE0.out, hno⟩
          clear hno
          go_wp2
          go_ret2
          refine .inr ⟨HOk.out, P, gT, A1, A2, c1, c2, rfl, hwP, ?_, ?_, q12, ?_, ?_, q22, ?_, hwT, HT16.out, HB16.out⟩
          ·rw [HSG.out, HFG.out]; exact HP16.out
          ·rw [HSG.out]; exact q11
          ·rw [HSG.out]; exact HE16.out.keep (fun _ _ _ => rfl) (fun b hb => ⟨by rcases hb.1 with h | h; exact h.elim; omega, by have := hb.2; omega⟩)
          ·rw [HFG.out]; exact q21
          ·rw [HFG.out]; exact HF16.out.keep (fun _ _ _ => rfl) (fun b hb => ⟨by rcases hb.1 with h | h; exact h.elim; omega, by have := hb.2; omega⟩)
         | cons x l =>
          have hex : ∃ a, Plus (LedE (strG ⟨(m : Int), (n : Int), gs, rs⟩ n)) a a := by
           rw [HSG.out]
           refine Classical.byContradiction fun hn => ?_
           have := FiltIs.nil K (x :: l) HFl.out (fun j hj => hn ⟨j, hj⟩)
           cases this
          obtain ⟨a, ha⟩ := hex
          have HBd : Hid (StrBad ⟨(m : Int), (n : Int), gs, rs⟩ n 8) := Lib.hid (.led HNo.out HLen.out (by rw [HSG.out]; exact HE0.out) a ha)
          have hl0 : (0 : Int) < ((x :: l).length : Int) := by simp only [List.length_cons]; omega
          clear ha
          go_wp2
          go_ret2
          exact .inl ⟨8, HBd.out, rfl, HB16.out⟩
        ·have e0 : (E != 0) = true := by simp [hE0]
         have HBd : Hid (StrBad ⟨(m : Int), (n : Int), gs, rs⟩ n E) := Lib.hid (by
          have h := StrBad.chk HNo.out HLen.out (by rw [HSG.out, ← HEE.out]; exact hE0)
          rw [HSG.out, ← HEE.out] at h
          exact h)
         clear hE0
         go_wp2
         go_ret2
         exact .inl ⟨E, HBd.out, rfl, HB15.out⟩
end Go.Proofs.YtjdojogjogenkaaDoor
