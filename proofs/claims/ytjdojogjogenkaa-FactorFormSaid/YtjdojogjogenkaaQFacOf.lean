/- Contract: factor.of of a valid grammar: all steps of factoring. -/
import Derived.Test.YtjdojogjogenkaaQFacGrp
import Derived.Test.YtjdojogjogenkaaQFacNext
import Derived.Test.YtjdojogjogenkaaQCopyG
import Derived.Test.YtjdojogjogenkaaQp1
import Derived.Lib.LazyBuf
namespace Go.Proofs.Ytjdojogjogenkaa
open Go.RowKit
set_option linter.unusedVariables false
theorem infoStep : (Try.prog.info? 70).map (fun i => (i.zero, i.size, i.bytes)) = some (some (.agg #[.int .i64 0, .int .i64 0, .slice none 0 0, .slice none 0 0, .int .i64 0, .int .i64 0, .int .i64 0, .slice none 0 0]), 8, 112) := by kernel_rfl
theorem elemStep : ElemT Try.prog StepR 55 70 112 := by obtain ⟨i, h1, h2, h3, h4⟩ := info_parts infoStep; exact ⟨i, _, Try.underlying55, h1, h2, h3, h4, rfl⟩
def lenV : Value → Nat
 | .slice _ n _ => n
 | _ => 0
theorem nextG_nons (g : Gram) (l : List Nat) : (nextG g l).nons = g.nons + 1 := rfl
theorem facTo_i64 {g : Gram} {l : List Nat} {j : Nat} (h : g.rules.length ≤ 32) : ∀ v ∈ facTo g l j, I64 v := by
 intro v hv
 unfold facTo at hv
 obtain ⟨k, hk, rfl⟩ := List.mem_map.1 hv
 rw [List.mem_range] at hk
 have := keepK_len l k
 unfold I64
 split <;> omega
theorem facTail_i64 {g : Gram} {l : List Nat} {p : Nat} (h : g.rules.length ≤ 32) (hl : l.length ≤ 32) : ∀ v ∈ facTail g l p, I64 v := by
 intro v hv
 unfold facTail at hv
 obtain ⟨k, hk, rfl⟩ := List.mem_map.1 hv
 rw [List.mem_range] at hk
 have := keepK_len l g.rules.length
 unfold I64
 split
 ·rename_i h1
  have := List.idxOf_lt_length_of_mem (List.mem_of_mem_take h1)
  omega
 ·omega
def FoI (g : Gram) (w : World) (v lv : Value) (wr : World) : Prop :=
 ∃ (ss : List StepR) (h : Gram) (n : Nat) (l : List Int) (A1 : Option Addr) (c1 z : Nat), FacRun g ss h ∧ checkI h = 0 ∧ h.nons = (n : Int) ∧ h.nons = g.nons + ss.length ∧
  Blk' wr w.heap.size 25 #[.int .i64 h.terms, .int .i64 h.nons, .int .i64 h.start, .slice A1 h.rules.length c1] ∧ Blk' wr (w.heap.size + 1) 25 #[.int .i64 0, .int .i64 0, .int .i64 0, .slice none 0 0] ∧
  h.rules.length ≤ c1 ∧ c1 ≤ 9223372036854775807 ∧ Els wr (fun b => w.heap.size + 1 + 1 ≤ b ∧ b < wr.heap.size ∧ v.ownBlock ≠ some b) h.rules A1 ∧ Own wr (fun _ => False) (w.heap.size + 1 + 1) 70 v ss ∧
  GrpIs h n l ∧ Own wr (fun _ => False) z 3 lv l ∧ (l = [] → lv = .slice none 0 0) ∧ w.heap.size + 1 + 1 ≤ z ∧ (∀ b, v.ownBlock = some b → b < z) ∧ Below w.heap.size w wr
def RetFac (g : Gram) (w : World) (e : Ending) (w' : World) : Prop :=
 (∃ k, FacBad g k ∧ e = .returned (.tuple #[.agg #[.int .i64 0, .int .i64 0, .int .i64 0, .slice none 0 0], .slice none 0 0, .int .i64 k]) ∧ Below w.heap.size w w') ∨
 ∃ (ss : List StepR) (h : Gram) (A1 : Option Addr) (c1 : Nat) (v : Value), FacRun g ss h ∧ checkI h = 0 ∧ NoNext h ∧ e = .returned (.tuple #[.agg #[.int .i64 h.terms, .int .i64 h.nons, .int .i64 h.start, .slice A1 h.rules.length c1], v, .int .i64 0]) ∧
  h.rules.length ≤ c1 ∧ c1 ≤ 9223372036854775807 ∧ Els w' (fun b => w.heap.size + 1 + 1 ≤ b ∧ b < w'.heap.size) h.rules A1 ∧ Own w' (fun _ => False) (w.heap.size + 1 + 1) 70 v ss ∧ Below w.heap.size w w'
set_option maxRecDepth 100000 in
set_option maxHeartbeats 8000000 in
theorem facOf_any (g : Gram) (n : Nat) (A : Option Addr) (c : Nat) (S : Nat → Prop) (w : World) (hgn : g.nons = (n : Int)) (hck : checkI g = 0) (hlc : g.rules.length ≤ c) (hc : c ≤ 9223372036854775807) (hA : Els w S g.rules A) (hS : ∀ b, S b → b < w.heap.size) :
  Calls Try.prog 19 #[.agg #[.int .i64 g.terms, .int .i64 g.nons, .int .i64 g.start, .slice A g.rules.length c]] w (RetFac g w) := by
 have hv := validG_of hck
 obtain ⟨gt, gn, gs, rs⟩ := g
 dsimp only at *
 subst hgn
 have hrl : rs.length ≤ 32 := hv.len
 have HV := Lib.hid hv
 have HCk := Lib.hid hck
 have HLc := Lib.hid (And.intro hlc hc)
 have HS := Lib.hid hS
 have q22 : ∀ (w : World) (a : Option Addr) (n c : Nat), (binOp .neq 22 (.slice a n c) (.slice none 0 0)).run Try.prog w = .ok (.bool (!a.isNone)) w := fun w a n c => run_neq_slice_nil w _ _ a n c Try.underlying22
 obtain ⟨w0, hw0⟩ : ∃ q : World, q = (w.alloc (.cells #[.int .i64 gt, .int .i64 (n : Int), .int .i64 gs, .slice A rs.length c] 25)).alloc (.cells #[.int .i64 0, .int .i64 0, .int .i64 0, .slice none 0 0] 25) := ⟨_, rfl⟩
 have HW0 := Lib.hid hw0
 have HB0 : Hid (Below w.heap.size w w0) := Lib.hid (by rw [hw0]; exact ((Below.refl _ _).alloc (Nat.le_refl _) _).alloc (by simp) _)
 have HG0 : Hid (Blk' w0 w.heap.size 25 #[.int .i64 gt, .int .i64 (n : Int), .int .i64 gs, .slice A rs.length c]) := Lib.hid (by rw [hw0]; exact (Blk'.new _ _ _).alloc _)
 have HR0 : Hid (Blk' w0 (w.heap.size + 1) 25 #[.int .i64 0, .int .i64 0, .int .i64 0, .slice none 0 0]) := Lib.hid (by rw [hw0]; exact Blk'.new' _ _ _ (by simp))
 have HA0 := Lib.hid (hA.below HB0.out)
 have zz0 : w.heap.size + 1 + 1 ≤ w0.heap.size := by rw [hw0]; simp
 clear hw0 hA hv hck hlc hc hS
 go_enter Try.func19, Try.ntmps19
 go_upto_region 1 with (fail)
 rw [← HW0.out]
 have g0 : w0.cell? ⟨w.heap.size, 0, none⟩ = some (.int .i64 gt) := HG0.out.cell 0
 have g1 : w0.cell? ⟨w.heap.size, 1, none⟩ = some (.int .i64 (n : Int)) := HG0.out.cell 1
 have g2 : w0.cell? ⟨w.heap.size, 2, none⟩ = some (.int .i64 gs) := HG0.out.cell 2
 have g3 : w0.cell? ⟨w.heap.size, 3, none⟩ = some (.slice A rs.length c) := HG0.out.cell 3
 have zg := HG0.out.lt
 go_wp2_with fail
 refine (check_any ⟨gt, (n : Int), gs, rs⟩ A c S w0 HLc.out.1 HLc.out.2 HA0.out).mono ?_
 rintro e w1 ⟨rfl, hb1⟩
 rw [HCk.out]
 clear g0 g1 g2 g3 zg
 have HB1 := Lib.hid (bthen HB0.out hb1 HB0.out.size)
 have HG1 := Lib.hid (HG0.out.below hb1 HG0.out.lt)
 have HR1 := Lib.hid (HR0.out.below hb1 HR0.out.lt)
 have HA1 := Lib.hid (HA0.out.below hb1)
 have zz1 : w0.heap.size ≤ w1.heap.size := hb1.size
 clear hb1
 have g0 : w1.cell? ⟨w.heap.size, 0, none⟩ = some (.int .i64 gt) := HG1.out.cell 0
 have g1 : w1.cell? ⟨w.heap.size, 1, none⟩ = some (.int .i64 (n : Int)) := HG1.out.cell 1
 have g2 : w1.cell? ⟨w.heap.size, 2, none⟩ = some (.int .i64 gs) := HG1.out.cell 2
 have g3 : w1.cell? ⟨w.heap.size, 3, none⟩ = some (.slice A rs.length c) := HG1.out.cell 3
 have zg := HG1.out.lt
 go_wp2_with fail
 refine (copyG_any gt (n : Int) gs rs A c S w1 (by omega) (fun q hq => by have := (HV.out.rules q hq).2.2.1; omega) HLc.out.1 HLc.out.2 HA1.out (fun b hb => by have := HS.out b hb; omega)).mono ?_
 rintro e w2 ⟨v2, rfl, hown2, hb2⟩
 obtain ⟨A2, c2, rfl, hl2, hc2, _⟩ := hown2.form
 clear g0 g1 g2 g3 zg
 have HB2 := Lib.hid (bthen HB1.out hb2 HB1.out.size)
 have HG2 := Lib.hid (HG1.out.below hb2 HG1.out.lt)
 have HR2 := Lib.hid (HR1.out.below hb2 HR1.out.lt)
 have HL2 := Lib.hid (And.intro hl2 hc2)
 have HE2 := Lib.hid hown2.vl.els.2.2.2
 have zz2 : w1.heap.size ≤ w2.heap.size := hb2.size
 clear hb2 hown2 hl2 hc2
 have g0 : w2.cell? ⟨w.heap.size, 0, none⟩ = some (.int .i64 gt) := HG2.out.cell 0
 have fg0 := HG2.out.frozen 0
 have g1 : w2.cell? ⟨w.heap.size, 1, none⟩ = some (.int .i64 (n : Int)) := HG2.out.cell 1
 have fg1 := HG2.out.frozen 1
 have g2 : w2.cell? ⟨w.heap.size, 2, none⟩ = some (.int .i64 gs) := HG2.out.cell 2
 have fg2 := HG2.out.frozen 2
 have g3 : w2.cell? ⟨w.heap.size, 3, none⟩ = some (.slice A rs.length c) := HG2.out.cell 3
 have fg3 := HG2.out.frozen 3
 have zg := HG2.out.lt
 obtain ⟨w3, hw3⟩ : ∃ q : World, q = (((w2.setCell ⟨w.heap.size, 0, none⟩ (.int .i64 gt)).setCell ⟨w.heap.size, 1, none⟩ (.int .i64 (n : Int))).setCell ⟨w.heap.size, 2, none⟩ (.int .i64 gs)).setCell ⟨w.heap.size, 3, none⟩ (.slice A2 rs.length c2) := ⟨_, rfl⟩
 have HW3 := Lib.hid hw3
 obtain ⟨hG3, hK3⟩ := set4F HG2.out (.int .i64 gt) (.int .i64 (n : Int)) (.int .i64 gs) (.slice A2 rs.length c2)
 rw [← hw3] at hG3 hK3
 have HG3 := Lib.hid hG3
 have HR3 := Lib.hid (HR2.out.kept hK3 (by omega))
 have HE3 : Hid (Els w3 (fun b => w.heap.size + 1 + 1 ≤ b ∧ b < w3.heap.size) rs A2) := Lib.hid ((HE2.out.kept hK3 (fun b hb h => by have h1 := hb.1; have h2 := hb.2; rcases h1 with h1 | h1; exact h1; omega)).keep (fun _ _ _ => rfl) (fun b hb => by have h2 := hb.2; have := hK3.size; rcases hb.1 with h1 | h1; exact h1.elim; constructor <;> omega))
 have HB3 := Lib.hid (HB2.out.trans (hK3.to_below (B := w.heap.size) (fun b hb => by omega) HB2.out.size))
 have zz3 : w2.heap.size ≤ w3.heap.size := hK3.size
 clear hw3 hG3 hK3
 go_upto_region 6 with (fail)
 rw [← HW3.out]
 clear g0 fg0 g1 fg1 g2 fg2 g3 fg3 zg
 have g0 : w3.cell? ⟨w.heap.size, 0, none⟩ = some (.int .i64 gt) := HG3.out.cell 0
 have g1 : w3.cell? ⟨w.heap.size, 1, none⟩ = some (.int .i64 (n : Int)) := HG3.out.cell 1
 have g2 : w3.cell? ⟨w.heap.size, 2, none⟩ = some (.int .i64 gs) := HG3.out.cell 2
 have g3 : w3.cell? ⟨w.heap.size, 3, none⟩ = some (.slice A2 rs.length c2) := HG3.out.cell 3
 have zg := HG3.out.lt
 go_wp2_with fail
 refine (group_any ⟨gt, (n : Int), gs, rs⟩ n A2 c2 (fun b => w.heap.size + 1 + 1 ≤ b ∧ b < w3.heap.size) w3 rfl (by have := HV.out.n10; (try dsimp only at this); omega) (by (try dsimp only); omega) (fun q hq => by have := (HV.out.rules q hq).2.2.1; omega) HL2.out.1 HL2.out.2 HE3.out).mono ?_
 rintro e w4 ⟨lv, l, rfl, hgr, hlo, hln, hb4⟩
 clear g0 g1 g2 g3 zg
 have HI : Hid (FoI ⟨gt, (n : Int), gs, rs⟩ w (.slice none 0 0) lv w4) := Lib.hid ⟨[], _, n, l, A2, c2, w3.heap.size, .nil, HCk.out, rfl, by simp, HG3.out.below hb4 HG3.out.lt, HR3.out.below hb4 HR3.out.lt, HL2.out.1, HL2.out.2, (HE3.out.below hb4).keep (fun _ _ _ => rfl) (fun b hb => by have := hb4.size; have := hb.2; exact ⟨hb.1, by omega, fun e => by cases e⟩), Own.nil _ _ _ _, hgr, hlo, hln, by omega, fun b e => by (cases e), bthen HB3.out hb4 HB3.out.size⟩
 clear hgr hlo hln hb4 HW0 HB0 HG0 HR0 HA0 HB1 HG1 HR1 HA1 HB2 HG2 HR2 HE2 HL2 HG3 HR3 HE3 HB3 HW3 zz1 zz2 zz3 zz0
 go_wp2_with fail
 go_loopw [6, 7] (fun v lv wr => FoI ⟨gt, (n : Int), gs, rs⟩ w v lv wr) (fun v _ _ => 10 - lenV v)
 case atStart => exact HI.out
 case round =>
  obtain ⟨wo, hwo⟩ : ∃ wo : World, wo = wr := ⟨_, rfl⟩
  subst hwo
  obtain ⟨ss, h, k, l1, A1, c1, z, hrun, hchk, hhn, hsum, hG, hR, hlc1, hc1, hE, hss, hgr, hlo, hln, hz1, hz2, hb⟩ := hrel
  clear HI
  have hvh := validG_of hchk
  obtain ⟨ht, hn_, hs_, hrs⟩ := h
  dsimp only at *
  subst hhn
  obtain ⟨Av, cv, rfl, _⟩ := hss.form
  obtain ⟨LA, lc, rfl, _, _, hor⟩ := hlo.form
  have hk10 : k ≤ 10 := by have := hvh.n10; (try dsimp only at this); omega
  have hrl1 : hrs.length ≤ 32 := hvh.len
  have hsl : ss.length ≤ 9 := by have := HV.out.n1; (try dsimp only at this); omega
  have HRun := Lib.hid hrun
  have HCh := Lib.hid hchk
  have HSum := Lib.hid hsum
  have HG1 := Lib.hid hG
  have HR1 := Lib.hid hR
  have HL1 := Lib.hid (And.intro hlc1 hc1)
  have HE1 := Lib.hid hE
  have HSs := Lib.hid hss
  have HVh := Lib.hid hvh
  have HLo := Lib.hid hlo
  have HB1 := Lib.hid hb
  have HZ2 := Lib.hid hz2
  have zG : w.heap.size < wo.heap.size := hG.lt
  have zR : w.heap.size + 1 < wo.heap.size := hR.lt
  clear hrun hchk hsum hG hR hlc1 hc1 hE hss hvh hlo hb hz2
  rcases hgr.of rfl with ⟨rfl, hno⟩ | ⟨m, x, hat, rfl⟩
  ·have e := hln rfl
   injection e with e1 e2 e3
   subst e1; subst e3
   have HNo := Lib.hid hno
   clear hno hgr hln hor e2
   have g0 : wo.cell? ⟨w.heap.size, 0, none⟩ = some (.int .i64 ht) := HG1.out.cell 0
   have g1 : wo.cell? ⟨w.heap.size, 1, none⟩ = some (.int .i64 (k : Int)) := HG1.out.cell 1
   have g2 : wo.cell? ⟨w.heap.size, 2, none⟩ = some (.int .i64 hs_) := HG1.out.cell 2
   have g3 : wo.cell? ⟨w.heap.size, 3, none⟩ = some (.slice A1 hrs.length c1) := HG1.out.cell 3
   have zg := HG1.out.lt
   have r0 : wo.cell? ⟨w.heap.size + 1, 0, none⟩ = some (.int .i64 0) := HR1.out.cell 0
   have fr0 := HR1.out.frozen 0
   have r1 : wo.cell? ⟨w.heap.size + 1, 1, none⟩ = some (.int .i64 0) := HR1.out.cell 1
   have fr1 := HR1.out.frozen 1
   have r2 : wo.cell? ⟨w.heap.size + 1, 2, none⟩ = some (.int .i64 0) := HR1.out.cell 2
   have fr2 := HR1.out.frozen 2
   have r3 : wo.cell? ⟨w.heap.size + 1, 3, none⟩ = some (.slice none 0 0) := HR1.out.cell 3
   have fr3 := HR1.out.frozen 3
   have zr := HR1.out.lt
   have hne1 : ¬ w.heap.size = w.heap.size + 1 := by omega
   have hne2 : ¬ w.heap.size + 1 = w.heap.size := by omega
   go_wp2_with fail
   generalize hwF : World.setCell _ _ _ = wF
   obtain ⟨hRF, kF⟩ := set4F HR1.out (.int .i64 ht) (.int .i64 (k : Int)) (.int .i64 hs_) (.slice A1 hrs.length c1)
   rw [hwF] at hRF kF
   have u0 : wF.cell? ⟨w.heap.size + 1, 0, none⟩ = some (.int .i64 ht) := hRF.cell 0
   have u1 : wF.cell? ⟨w.heap.size + 1, 1, none⟩ = some (.int .i64 (k : Int)) := hRF.cell 1
   have u2 : wF.cell? ⟨w.heap.size + 1, 2, none⟩ = some (.int .i64 hs_) := hRF.cell 2
   have u3 : wF.cell? ⟨w.heap.size + 1, 3, none⟩ = some (.slice A1 hrs.length c1) := hRF.cell 3
   have zF := kF.size
   refine bodyPost_ret (v := .tuple #[.agg #[.int .i64 ht, .int .i64 (k : Int), .int .i64 hs_, .slice A1 hrs.length c1], .slice Av ss.length cv, .int .i64 0]) (by simp [results, Try.results19, go_sem, u0, u1, u2, u3]) rfl ?_
   exact .inr ⟨ss, ⟨ht, (k : Int), hs_, hrs⟩, A1, c1, _, HRun.out, HCh.out, HNo.out, rfl, HL1.out.1, HL1.out.2, (HE1.out.kept kF (fun b hb h => by have := hb.1; omega)).keep (fun _ _ _ => rfl) (fun b hb => ⟨hb.1, Nat.lt_of_lt_of_le hb.2.1 kF.size⟩), HSs.out.kept kF (fun b hb h => by rcases h with h | h; exact h; omega), HB1.out.trans (kF.to_below (B := w.heap.size) (fun b hb => by omega) HB1.out.size)⟩
  ·have HAt := Lib.hid hat
   have HNx := Lib.hid (places_nxt hat.mem)
   obtain ⟨L, hL⟩ : ∃ L : List Nat, L = (placesN ⟨ht, (k : Int), hs_, hrs⟩ (m : Int) x) := ⟨_, rfl⟩
   rw [← hL] at HLo hor HNx
   have HLq := Lib.hid hL
   have hll : L.length ≤ 32 := by
    have h1 := nodup_leF hrs.length L HNx.out.nodup (fun y hy => by
     obtain ⟨q, h, _⟩ := HNx.out.each y hy
     exact (List.getElem?_eq_some_iff.1 h).1)
    omega
   obtain ⟨lb, rfl, hlb1, hlb2⟩ := hor.resolve_left (fun e => HNx.out.ne (by unfold natsI at e; simpa using e))
   have HLn : Hid ((natsI L).length = L.length) := Lib.hid (natsI_len L)
   rw [← hL]
   rw [HLn.out] at HLo ⊢
   clear hat hL hgr hln
   have g0 : wo.cell? ⟨w.heap.size, 0, none⟩ = some (.int .i64 ht) := HG1.out.cell 0
   have g1 : wo.cell? ⟨w.heap.size, 1, none⟩ = some (.int .i64 (k : Int)) := HG1.out.cell 1
   have g2 : wo.cell? ⟨w.heap.size, 2, none⟩ = some (.int .i64 hs_) := HG1.out.cell 2
   have g3 : wo.cell? ⟨w.heap.size, 3, none⟩ = some (.slice A1 hrs.length c1) := HG1.out.cell 3
   have zg := HG1.out.lt
   by_cases h10 : k = 10
   ·have HK := Lib.hid h10
    have d0 : ((k : Int) == 10) = true := by simp [h10]
    have d1 : decide ((k : Int) = 10) = true := by simp [h10]
    clear h10
    have r0 : wo.cell? ⟨w.heap.size + 1, 0, none⟩ = some (.int .i64 0) := HR1.out.cell 0
    have fr0 := HR1.out.frozen 0
    have r1 : wo.cell? ⟨w.heap.size + 1, 1, none⟩ = some (.int .i64 0) := HR1.out.cell 1
    have fr1 := HR1.out.frozen 1
    have r2 : wo.cell? ⟨w.heap.size + 1, 2, none⟩ = some (.int .i64 0) := HR1.out.cell 2
    have fr2 := HR1.out.frozen 2
    have r3 : wo.cell? ⟨w.heap.size + 1, 3, none⟩ = some (.slice none 0 0) := HR1.out.cell 3
    have fr3 := HR1.out.frozen 3
    have zr := HR1.out.lt
    go_wp2_with fail
    generalize hwF : World.setCell _ _ _ = wF
    obtain ⟨hRF, kF⟩ := set4F HR1.out (.int .i64 0) (.int .i64 0) (.int .i64 0) (.slice none 0 0)
    rw [hwF] at hRF kF
    have u0 : wF.cell? ⟨w.heap.size + 1, 0, none⟩ = some (.int .i64 0) := hRF.cell 0
    have u1 : wF.cell? ⟨w.heap.size + 1, 1, none⟩ = some (.int .i64 0) := hRF.cell 1
    have u2 : wF.cell? ⟨w.heap.size + 1, 2, none⟩ = some (.int .i64 0) := hRF.cell 2
    have u3 : wF.cell? ⟨w.heap.size + 1, 3, none⟩ = some (.slice none 0 0) := hRF.cell 3
    have zF := kF.size
    refine bodyPost_ret (v := .tuple #[.agg #[.int .i64 0, .int .i64 0, .int .i64 0, .slice none 0 0], .slice none 0 0, .int .i64 2]) (by simp [results, Try.results19, go_sem, u0, u1, u2, u3]) rfl ?_
    exact .inl ⟨2, .large ss _ m x HRun.out (by show (k : Int) = 10; have := HK.out; omega) HAt.out, rfl, HB1.out.trans (kF.to_below (B := w.heap.size) (fun b hb => by omega) HB1.out.size)⟩
   ·have HK := Lib.hid h10
    have d0 : ((k : Int) == 10) = false := by simp; omega
    have d1 : decide ((k : Int) = 10) = false := by simp; omega
    have hk9 : k ≤ 9 := by omega
    clear h10
    have HX := Lib.hid (nextS_any ⟨ht, (k : Int), hs_, hrs⟩ k L (m : Int) x A1 (some ⟨lb, 0, none⟩) c1 lc (fun b => w.heap.size + 1 + 1 ≤ b ∧ b < wo.heap.size ∧ (Value.slice Av ss.length cv).ownBlock ≠ some b) wo rfl HVh.out HNx.out HL1.out.1 HL1.out.2 HE1.out (fun b hb => hb.2.1) (HLo.out.vl.els.2.2.2.keep (fun _ _ _ => rfl) (fun b hb => by rcases hb.1 with h | h; exact h.elim; exact ⟨by omega, hb.2, fun e => by have := HZ2.out b e; omega⟩)))
    go_wp2_with fail
    refine HX.out.mono ?_
    rintro e w5 ⟨A5, c5, TB, LB, rfl, hl5, hc5, hE5, hT0, hT, hL0, hLb, hb5⟩
    clear g0 g1 g2 g3 zg
    clear d0 d1 HX
    have HTb := Lib.hid (And.intro hT0 (And.intro hT (And.intro hL0 hLb)))
    have zz5 : wo.heap.size ≤ w5.heap.size := hb5.size
    obtain ⟨X, hX⟩ : ∃ X : Gram, X = nextG ⟨ht, (k : Int), hs_, hrs⟩ L := ⟨_, rfl⟩
    have hE5 : Els w5 (fun b => w.heap.size + 1 + 1 ≤ b ∧ b < w5.heap.size ∧ (Value.slice Av ss.length cv).ownBlock ≠ some b) X.rules A5 := by rw [hX]; exact hE5.keep (fun _ _ _ => rfl) (fun b hb => by have h2 := hb.2; rcases hb.1 with h | h; exact ⟨h.1, h2, h.2.2⟩; exact ⟨by omega, h2, fun e => by have := HZ2.out b e; have := HSs.out.block b e; omega⟩)
    have hl5 : X.rules.length ≤ c5 := by rw [hX]; exact hl5
    have HXe := Lib.hid hX
    have hXt : X.terms = ht := by rw [hX]; rfl
    have hXn : X.nons = ((k + 1 : Nat) : Int) := by rw [hX, Int.natCast_add]; rfl
    have hXs : X.start = hs_ := by rw [hX]; rfl
    rw [show (facG ⟨ht, (k : Int), hs_, hrs⟩ L (cmP ⟨ht, (k : Int), hs_, hrs⟩ L L.length)).rules = X.rules from by rw [hX]; rfl]
    have HE5 := Lib.hid hE5
    have HL5 := Lib.hid (And.intro hl5 hc5)
    have HB5 := Lib.hid (bthen HB1.out hb5 HB1.out.size)
    have HG5 := Lib.hid (HG1.out.below hb5 zG)
    have HR5 := Lib.hid (HR1.out.below hb5 zR)
    have HSs5 := Lib.hid (HSs.out.below hb5 (Nat.le_refl _))
    obtain ⟨cmv, hcm⟩ : ∃ z : Nat, z = cmP ⟨ht, (k : Int), hs_, hrs⟩ L L.length := ⟨_, rfl⟩
    obtain ⟨hdv, hhd⟩ : ∃ z : Int, z = facHd L := ⟨_, rfl⟩
    have HCm := Lib.hid (And.intro hcm hhd)
    rw [← hcm, ← hhd]
    clear hX hl5 hc5 hE5 hT0 hT hL0 hLb hb5 hcm hhd
    obtain ⟨xt, xn, xs, xr⟩ := X
    dsimp only at *
    subst hXt; subst hXn; subst hXs
    obtain ⟨w6, hw6⟩ : ∃ q : World, q = (w5.alloc (.cells #[.int .i64 xt, .int .i64 ((k : Int) + 1), .int .i64 xs, .slice A5 xr.length c5] 25)).alloc (.cells #[.int .i64 (cmv : Int), .int .i64 hdv, .slice (some ⟨TB, 0, none⟩) hrs.length hrs.length, .slice (some ⟨LB, 0, none⟩) hrs.length hrs.length, .int .i64 xt, .int .i64 (k : Int), .int .i64 xs, .slice A1 hrs.length c1] 70) := ⟨_, rfl⟩
    have HW6 := Lib.hid hw6
    have hb6 : Below w5.heap.size w5 w6 := by rw [hw6]; exact ((Below.refl _ _).alloc (Nat.le_refl _) _).alloc (by simp) _
    have HX6 : Hid (Blk' w6 w5.heap.size 25 #[.int .i64 xt, .int .i64 ((k : Int) + 1), .int .i64 xs, .slice A5 xr.length c5]) := Lib.hid (by rw [hw6]; exact (Blk'.new _ _ _).alloc _)
    have HY6 : Hid (Blk' w6 (w5.heap.size + 1) 70 #[.int .i64 (cmv : Int), .int .i64 hdv, .slice (some ⟨TB, 0, none⟩) hrs.length hrs.length, .slice (some ⟨LB, 0, none⟩) hrs.length hrs.length, .int .i64 xt, .int .i64 (k : Int), .int .i64 xs, .slice A1 hrs.length c1]) := Lib.hid (by rw [hw6]; exact Blk'.new' _ _ _ (by simp))
    have zz6 : w5.heap.size + 1 + 1 ≤ w6.heap.size := by rw [hw6]; simp
    clear hw6
    go_upto_region 12 with (fail)
    rw [← HW6.out]
    have HG6 := Lib.hid (HG5.out.below hb6 HG5.out.lt)
    have HR6 := Lib.hid (HR5.out.below hb6 HR5.out.lt)
    have HSs6 := Lib.hid (HSs5.out.below hb6 (Nat.le_refl _))
    have HE6 := Lib.hid (HE5.out.below hb6)
    have HT6 := Lib.hid (HTb.out.2.1.below hb6 HTb.out.2.1.lt)
    have HL6 := Lib.hid (HTb.out.2.2.2.below hb6 HTb.out.2.2.2.lt)
    have zTB := HTb.out.1
    have zLB := HTb.out.2.2.1
    have zTB2 := HTb.out.2.1.lt
    have zLB2 := HTb.out.2.2.2.lt
    have HB6 := Lib.hid (bthen HB5.out hb6 HB5.out.size)
    clear hb6 HW6 HG5 HR5 HSs5 HE5 HTb HB5
    have x0 : w6.cell? ⟨w5.heap.size, 0, none⟩ = some (.int .i64 xt) := HX6.out.cell 0
    have x1 : w6.cell? ⟨w5.heap.size, 1, none⟩ = some (.int .i64 ((k : Int) + 1)) := HX6.out.cell 1
    have x2 : w6.cell? ⟨w5.heap.size, 2, none⟩ = some (.int .i64 xs) := HX6.out.cell 2
    have x3 : w6.cell? ⟨w5.heap.size, 3, none⟩ = some (.slice A5 xr.length c5) := HX6.out.cell 3
    have zx := HX6.out.lt
    go_wp2_with fail
    refine (check_any ⟨xt, (k : Int) + 1, xs, xr⟩ A5 c5 (fun b => w.heap.size + 1 + 1 ≤ b ∧ b < w5.heap.size ∧ (Value.slice Av ss.length cv).ownBlock ≠ some b) w6 HL5.out.1 HL5.out.2 HE6.out).mono ?_
    rintro e w7 ⟨rfl, hb7⟩
    clear x0 x1 x2 x3 zx
    have HX7 := Lib.hid (HX6.out.below hb7 HX6.out.lt)
    have HY7 := Lib.hid (HY6.out.below hb7 HY6.out.lt)
    have HG7 := Lib.hid (HG6.out.below hb7 HG6.out.lt)
    have HR7 := Lib.hid (HR6.out.below hb7 HR6.out.lt)
    have HSs7 := Lib.hid (HSs6.out.below hb7 (Nat.le_refl _))
    have HE7 := Lib.hid (HE6.out.below hb7)
    have HT7 := Lib.hid (HT6.out.below hb7 HT6.out.lt)
    have HL7 := Lib.hid (HL6.out.below hb7 HL6.out.lt)
    have HB7 := Lib.hid (bthen HB6.out hb7 HB6.out.size)
    have zz7 : w6.heap.size ≤ w7.heap.size := hb7.size
    clear hb7 HX6 HY6 HG6 HR6 HSs6 HE6 HT6 HL6 HB6
    by_cases hx0 : checkI ⟨xt, (k : Int) + 1, xs, xr⟩ = 0
    ·rw [hx0]
     have HX0 := Lib.hid hx0
     clear hx0
     have x0 : w7.cell? ⟨w5.heap.size, 0, none⟩ = some (.int .i64 xt) := HX7.out.cell 0
     have x1 : w7.cell? ⟨w5.heap.size, 1, none⟩ = some (.int .i64 ((k : Int) + 1)) := HX7.out.cell 1
     have x2 : w7.cell? ⟨w5.heap.size, 2, none⟩ = some (.int .i64 xs) := HX7.out.cell 2
     have x3 : w7.cell? ⟨w5.heap.size, 3, none⟩ = some (.slice A5 xr.length c5) := HX7.out.cell 3
     have zx := HX7.out.lt
     have y0 : w7.cell? ⟨w5.heap.size + 1, 0, none⟩ = some (.int .i64 (cmv : Int)) := HY7.out.cell 0
     have y1 : w7.cell? ⟨w5.heap.size + 1, 1, none⟩ = some (.int .i64 hdv) := HY7.out.cell 1
     have y2 : w7.cell? ⟨w5.heap.size + 1, 2, none⟩ = some (.slice (some ⟨TB, 0, none⟩) hrs.length hrs.length) := HY7.out.cell 2
     have y3 : w7.cell? ⟨w5.heap.size + 1, 3, none⟩ = some (.slice (some ⟨LB, 0, none⟩) hrs.length hrs.length) := HY7.out.cell 3
     have y4 : w7.cell? ⟨w5.heap.size + 1, 4, none⟩ = some (.int .i64 xt) := HY7.out.cell 4
     have y5 : w7.cell? ⟨w5.heap.size + 1, 5, none⟩ = some (.int .i64 (k : Int)) := HY7.out.cell 5
     have y6 : w7.cell? ⟨w5.heap.size + 1, 6, none⟩ = some (.int .i64 xs) := HY7.out.cell 6
     have y7 : w7.cell? ⟨w5.heap.size + 1, 7, none⟩ = some (.slice A1 hrs.length c1) := HY7.out.cell 7
     have zy := HY7.out.lt
     go_upto_region 15 with (fail)
     refine wp_region_noPanic ?_
     refine wp_region_held_drew (S := (fun w' => w'.cell? ⟨w5.heap.size, 0, none⟩ = some (.int .i64 xt) ∧ w'.cell? ⟨w5.heap.size, 1, none⟩ = some (.int .i64 ((k : Int) + 1)) ∧ w'.cell? ⟨w5.heap.size, 2, none⟩ = some (.int .i64 xs) ∧ w'.cell? ⟨w5.heap.size, 3, none⟩ = some (.slice A5 xr.length c5) ∧ w'.cell? ⟨w5.heap.size + 1, 0, none⟩ = some (.int .i64 (cmv : Int)) ∧ w'.cell? ⟨w5.heap.size + 1, 1, none⟩ = some (.int .i64 hdv) ∧ w'.cell? ⟨w5.heap.size + 1, 2, none⟩ = some (.slice (some ⟨TB, 0, none⟩) hrs.length hrs.length) ∧ w'.cell? ⟨w5.heap.size + 1, 3, none⟩ = some (.slice (some ⟨LB, 0, none⟩) hrs.length hrs.length) ∧ w'.cell? ⟨w5.heap.size + 1, 4, none⟩ = some (.int .i64 xt) ∧ w'.cell? ⟨w5.heap.size + 1, 5, none⟩ = some (.int .i64 (k : Int)) ∧ w'.cell? ⟨w5.heap.size + 1, 6, none⟩ = some (.int .i64 xs) ∧ w'.cell? ⟨w5.heap.size + 1, 7, none⟩ = some (.slice A1 hrs.length c1))) (by kernel_rfl) ?ha (fun hHeld => ?ba)
     case ha => ((try dsimp only); go_keep)
     clear x0 x1 x2 x3 zx y0 y1 y2 y3 y4 y5 y6 y7 zy
     obtain ⟨w8, hw8⟩ : ∃ q : World, q = w7.drew := ⟨_, rfl⟩
     rw [← hw8] at hHeld ⊢
     have hb8 : Below w7.heap.size w7 w8 := by rw [hw8]; exact (Below.refl _ _).drew
     clear hw8
     have HX8 := Lib.hid (HX7.out.below hb8 HX7.out.lt)
     have HY8 := Lib.hid (HY7.out.below hb8 HY7.out.lt)
     have HG8 := Lib.hid (HG7.out.below hb8 HG7.out.lt)
     have HR8 := Lib.hid (HR7.out.below hb8 HR7.out.lt)
     have HSs8 := Lib.hid (HSs7.out.below hb8 (Nat.le_refl _))
     have HE8 := Lib.hid (HE7.out.below hb8)
     have HT8 := Lib.hid (HT7.out.below hb8 HT7.out.lt)
     have HL8 := Lib.hid (HL7.out.below hb8 HL7.out.lt)
     have HB8 := Lib.hid (bthen HB7.out hb8 HB7.out.size)
     have zz8 : w7.heap.size ≤ w8.heap.size := hb8.size
     clear hb8 HX7 HY7 HG7 HR7 HSs7 HE7 HT7 HL7 HB7
     refine take_run (i := 0) (v := ?va0) rfl (by kernel_rfl) (by kernel_rfl) (by kernel_rfl) (fun _ _ _ h => h) (by rfl) ?ya0 (by assumption) ?ra0
     case ya0 => (intro w hSw; (try dsimp only at hSw); go_simp; try with_reducible rfl)
     try simp only [Act.put, List.setIfInBounds_toArray, List.set_cons_zero, List.set_cons_succ]
     refine take_run (i := 1) (v := ?va1) rfl (by kernel_rfl) (by kernel_rfl) (by kernel_rfl) (fun _ _ _ h => h) (by rfl) ?ya1 (by assumption) ?ra1
     case ya1 => (intro w hSw; (try dsimp only at hSw); go_simp; try with_reducible rfl)
     try simp only [Act.put, List.setIfInBounds_toArray, List.set_cons_zero, List.set_cons_succ]
     refine take_run (i := 2) (v := ?va2) rfl (by kernel_rfl) (by kernel_rfl) (by kernel_rfl) (fun _ _ _ h => h) (by rfl) ?ya2 (by assumption) ?ra2
     case ya2 => (intro w hSw; (try dsimp only at hSw); go_simp; try with_reducible rfl)
     try simp only [Act.put, List.setIfInBounds_toArray, List.set_cons_zero, List.set_cons_succ]
     refine take_call (i := 3) rfl (by kernel_rfl) (by rfl) (fun Kq hK => ?_)
     go_simp
     obtain ⟨w9, hw9⟩ : ∃ q : World, q = w8.alloc (.cells #[.int .i64 (cmv : Int), .int .i64 hdv, .slice (some ⟨TB, 0, none⟩) hrs.length hrs.length, .slice (some ⟨LB, 0, none⟩) hrs.length hrs.length, .int .i64 xt, .int .i64 (k : Int), .int .i64 xs, .slice A1 hrs.length c1] 70) := ⟨_, rfl⟩
     rw [← hw9]
     have HQ9 : Hid (Blk' w9 w8.heap.size 70 #[.int .i64 (cmv : Int), .int .i64 hdv, .slice (some ⟨TB, 0, none⟩) hrs.length hrs.length, .slice (some ⟨LB, 0, none⟩) hrs.length hrs.length, .int .i64 xt, .int .i64 (k : Int), .int .i64 xs, .slice A1 hrs.length c1]) := Lib.hid (by rw [hw9]; exact Blk'.new _ _ _)
     have hb9 : Below w8.heap.size w8 w9 := by rw [hw9]; exact (Below.refl _ _).alloc (Nat.le_refl _) _
     have HB9 := Lib.hid hb9
     clear hw9 hb9
     refine hK.out _ _ ?ha3 (fun hHeld => ?ra3)
     case ha3 => ((try dsimp only); exact ⟨(HX8.out.below HB9.out HX8.out.lt).cell 0, (HX8.out.below HB9.out HX8.out.lt).cell 1, (HX8.out.below HB9.out HX8.out.lt).cell 2, (HX8.out.below HB9.out HX8.out.lt).cell 3, (HY8.out.below HB9.out HY8.out.lt).cell 0, (HY8.out.below HB9.out HY8.out.lt).cell 1, (HY8.out.below HB9.out HY8.out.lt).cell 2, (HY8.out.below HB9.out HY8.out.lt).cell 3, (HY8.out.below HB9.out HY8.out.lt).cell 4, (HY8.out.below HB9.out HY8.out.lt).cell 5, (HY8.out.below HB9.out HY8.out.lt).cell 6, (HY8.out.below HB9.out HY8.out.lt).cell 7⟩)
     clear hK Kq
     try simp only [Act.put, List.setIfInBounds_toArray, List.set_cons_zero, List.set_cons_succ]
     refine take_call (i := 4) rfl (by kernel_rfl) (by rfl) (fun Kq hK => ?_)
     have HAtq : Hid (At w9 w8.heap.size 0 [.int .i64 (cmv : Int), .int .i64 hdv, .slice (some ⟨TB, 0, none⟩) hrs.length hrs.length, .slice (some ⟨LB, 0, none⟩) hrs.length hrs.length, .int .i64 xt, .int .i64 (k : Int), .int .i64 xs, .slice A1 hrs.length c1]) := Lib.hid (fun j u hu => by rw [Nat.zero_add, HQ9.out.cell]; simpa using hu)
     have HO9 := Lib.hid (HSs8.out.below HB9.out (Nat.le_refl _))
     have HT9 := HT8.out.below HB9.out HT8.out.lt
     have HL9 := HL8.out.below HB9.out HL8.out.lt
     have HWp := Lib.hid (fun b (hb : (Value.slice Av ss.length cv).ownBlock = some b) => HSs.out.block b hb)
     have HTe := els_icells (S := OwnT (fun _ => False) (w.heap.size + 1 + 1) (.slice Av ss.length cv) w9) HT9 (facTo_i64 (g := ⟨xt, (k : Int), xs, hrs⟩) hrl1) ⟨.inr (by omega), fun e => by have := (HWp.out TB e).2; omega, HT9.lt⟩
     have HLe := els_icells (S := OwnT (fun _ => False) (w.heap.size + 1 + 1) (.slice Av ss.length cv) w9) HL9 (facTail_i64 (g := ⟨xt, (k : Int), xs, hrs⟩) (l := L) hrl1 hll) ⟨.inr (by omega), fun e => by have := (HWp.out LB e).2; omega, HL9.lt⟩
     have hcm4 : cmv ≤ 4 := by
      have h1 := cmP_le ⟨xt, (k : Int), xs, hrs⟩ L L.length
      rw [← HCm.out.1] at h1
      obtain ⟨q, e1, _, _⟩ := HNx.out.each _ HNx.out.head
      rw [rulN_of e1] at h1
      have := (HVh.out.rules q (List.mem_of_getElem? e1)).2.2.1
      omega
     have hhd32 : 0 ≤ hdv ∧ hdv ≤ 32 := by
      rw [HCm.out.2]
      obtain ⟨q, e1, _, _⟩ := HNx.out.each _ HNx.out.head
      have h1 : L.headD 0 < hrs.length := (List.getElem?_eq_some_iff.1 e1).1
      have h2 := keepK_len L (L.headD 0)
      unfold facHd
      omega
     have HRd : Hid (Dat.rd w9 (OwnT (fun _ => False) (w.heap.size + 1 + 1) (.slice Av ss.length cv) w9) (⟨(cmv : Int), hdv, facTo ⟨xt, (k : Int), xs, hrs⟩ L hrs.length, facTail ⟨xt, (k : Int), xs, hrs⟩ L L.length⟩ : StepR) [.int .i64 (cmv : Int), .int .i64 hdv, .slice (some ⟨TB, 0, none⟩) hrs.length hrs.length, .slice (some ⟨LB, 0, none⟩) hrs.length hrs.length, .int .i64 xt, .int .i64 (k : Int), .int .i64 xs, .slice A1 hrs.length c1]) := Lib.hid ⟨_, _, _, _, _, _, rfl, ⟨by (try dsimp only); omega, by (try dsimp only); omega⟩, ⟨by (try dsimp only); omega, by (try dsimp only); omega⟩, Vl.of_slice (facTo_len ⟨xt, (k : Int), xs, hrs⟩ L hrs.length).symm (Nat.le_of_eq (facTo_len ⟨xt, (k : Int), xs, hrs⟩ L hrs.length)) (by omega) HTe, Vl.of_slice (facTail_len ⟨xt, (k : Int), xs, hrs⟩ L L.length).symm (Nat.le_of_eq (facTail_len ⟨xt, (k : Int), xs, hrs⟩ L L.length)) (by omega) HLe, _, _, _, rfl⟩
     clear HT9 HL9 HTe HLe
     refine wp_own1 _ _ _ elemStep rfl rfl HO9.out (⟨(cmv : Int), hdv, facTo ⟨xt, (k : Int), xs, hrs⟩ L hrs.length, facTail ⟨xt, (k : Int), xs, hrs⟩ L L.length⟩ : StepR) [.int .i64 (cmv : Int), .int .i64 hdv, .slice (some ⟨TB, 0, none⟩) hrs.length hrs.length, .slice (some ⟨LB, 0, none⟩) hrs.length hrs.length, .int .i64 xt, .int .i64 (k : Int), .int .i64 xs, .slice A1 hrs.length c1] rfl HAtq.out HRd.out (by omega) (by omega) (by have := HB9.out.size; omega) ?_
     intro v7 w10 hown7 hg7 hat7
     obtain ⟨A7, c7, hv7, _⟩ := hown7.form
     rw [snoc_len] at hv7
     subst hv7
     have hb10 : Below (w.heap.size + 1 + 1) w9 w10 := (Below.refl _ _).grown hg7 (by have := HB9.out.size; omega) (fun b hb => (HO9.out.block b hb).1)
     have hk10 : Kept (fun b => (Value.slice Av ss.length cv).ownBlock = some b) w9 w10 := (Kept.refl _ w9).grown hg7 (fun k hk => .inl hk)
     have hx10 : ∀ b, (Value.slice Av ss.length cv).ownBlock = some b → w.heap.size + 1 + 1 ≤ b ∧ b < wo.heap.size := fun b hb => HWp.out b hb
     have HO10 := Lib.hid hown7
     have HX10 := Lib.hid ((HX8.out.below HB9.out HX8.out.lt).kept hk10 (fun h => by have := hx10 _ h; omega))
     have HY10 := Lib.hid ((HY8.out.below HB9.out HY8.out.lt).kept hk10 (fun h => by have := hx10 _ h; omega))
     have HG10 := Lib.hid ((HG8.out.below HB9.out HG8.out.lt).kept hk10 (fun h => by have := hx10 _ h; omega))
     have HR10 := Lib.hid ((HR8.out.below HB9.out HR8.out.lt).kept hk10 (fun h => by have := hx10 _ h; omega))
     have HE10 : Hid (Els w10 (fun b => w.heap.size + 1 + 1 ≤ b ∧ b < w10.heap.size ∧ (Value.slice A7 (ss.length + 1) c7).ownBlock ≠ some b) xr A5) := Lib.hid (((HE8.out.below HB9.out).kept hk10 (fun b hb h => hb.2.2 h)).keep (fun _ _ _ => rfl) (fun b hb => ⟨hb.1, by have := hb.2.1; have := HB9.out.size; have := hk10.size; omega, fun e => by rcases hat7 with h | h; (rw [h] at e; exact hb.2.2 e); (rw [h] at e; injection e with e; have := hb.2.1; have := HB9.out.size; omega)⟩))
     have HB10 := Lib.hid (HB8.out.trans ((HB9.out.mono (by omega)).trans (hb10.mono (by omega))))
     have zz10 : w9.heap.size ≤ w10.heap.size := hk10.size
     have zz9 : w8.heap.size ≤ w9.heap.size := HB9.out.size
     clear hown7 hg7 hat7 hb10 hk10
     refine hK.out _ _ ?ha4 (fun hHeld => ?ra4)
     case ha4 => ((try dsimp only); exact ⟨HX10.out.cell 0, HX10.out.cell 1, HX10.out.cell 2, HX10.out.cell 3, HY10.out.cell 0, HY10.out.cell 1, HY10.out.cell 2, HY10.out.cell 3, HY10.out.cell 4, HY10.out.cell 5, HY10.out.cell 6, HY10.out.cell 7⟩)
     clear hK Kq
     try simp only [Act.put, List.setIfInBounds_toArray, List.set_cons_zero, List.set_cons_succ]
     refine take_call (i := 5) rfl (by kernel_rfl) (by rfl) (fun Kq hK => ?_)
     have g0 : w10.cell? ⟨w.heap.size, 0, none⟩ = some (.int .i64 xt) := HG10.out.cell 0
     have fg0 := HG10.out.frozen 0
     have g1 : w10.cell? ⟨w.heap.size, 1, none⟩ = some (.int .i64 (k : Int)) := HG10.out.cell 1
     have fg1 := HG10.out.frozen 1
     have g2 : w10.cell? ⟨w.heap.size, 2, none⟩ = some (.int .i64 xs) := HG10.out.cell 2
     have fg2 := HG10.out.frozen 2
     have g3 : w10.cell? ⟨w.heap.size, 3, none⟩ = some (.slice A1 hrs.length c1) := HG10.out.cell 3
     have fg3 := HG10.out.frozen 3
     have zg := HG10.out.lt
     go_simp
     obtain ⟨w11, hw11⟩ : ∃ q : World, q = (((w10.setCell ⟨w.heap.size, 0, none⟩ (.int .i64 xt)).setCell ⟨w.heap.size, 1, none⟩ (.int .i64 ((k : Int) + 1))).setCell ⟨w.heap.size, 2, none⟩ (.int .i64 xs)).setCell ⟨w.heap.size, 3, none⟩ (.slice A5 xr.length c5) := ⟨_, rfl⟩
     obtain ⟨hG11, hK11⟩ := set4F HG10.out (.int .i64 xt) (.int .i64 ((k : Int) + 1)) (.int .i64 xs) (.slice A5 xr.length c5)
     rw [← hw11] at hG11 hK11 ⊢
     have HG11 := Lib.hid hG11
     clear g0 fg0 g1 fg1 g2 fg2 g3 fg3 zg
     have HX11 := Lib.hid (HX10.out.kept hK11 (by omega))
     have HY11 := Lib.hid (HY10.out.kept hK11 (by omega))
     have HR11 := Lib.hid (HR10.out.kept hK11 (by omega))
     have HO11 := Lib.hid (HO10.out.kept hK11 (fun b hb h => by rcases h with h | h; exact h; omega))
     have HE11 := Lib.hid ((HE10.out.kept hK11 (fun b hb h => by have := hb.1; omega)).keep (S' := fun b => w.heap.size + 1 + 1 ≤ b ∧ b < w11.heap.size ∧ (Value.slice A7 (ss.length + 1) c7).ownBlock ≠ some b) (fun _ _ _ => rfl) (fun b hb => ⟨hb.1, Nat.lt_of_lt_of_le hb.2.1 hK11.size, hb.2.2⟩))
     have HB11 := Lib.hid (HB10.out.trans (hK11.to_below (B := w.heap.size) (fun b hb => by omega) HB10.out.size))
     have zz11 : w10.heap.size ≤ w11.heap.size := hK11.size
     clear hw11 hG11 hK11
     refine hK.out _ _ ?ha5 (fun hHeld => ?ra5)
     case ha5 => ((try dsimp only); exact ⟨HX11.out.cell 0, HX11.out.cell 1, HX11.out.cell 2, HX11.out.cell 3, HY11.out.cell 0, HY11.out.cell 1, HY11.out.cell 2, HY11.out.cell 3, HY11.out.cell 4, HY11.out.cell 5, HY11.out.cell 6, HY11.out.cell 7⟩)
     clear hK Kq
     try simp only [Act.put, List.setIfInBounds_toArray, List.set_cons_zero, List.set_cons_succ]
     refine take_run (i := 6) (v := ?va6) rfl (by kernel_rfl) (by kernel_rfl) (by kernel_rfl) (fun _ _ _ h => h) (by rfl) ?ya6 (by assumption) ?ra6
     case ya6 => (intro w hSw; (try dsimp only at hSw); go_simp; try with_reducible rfl)
     try simp only [Act.put, List.setIfInBounds_toArray, List.set_cons_zero, List.set_cons_succ]
     refine wpAnyH_done (by kernel_rfl) ?_ _
     refine NoPanic.normal ?_
     have g0 : w11.cell? ⟨w.heap.size, 0, none⟩ = some (.int .i64 xt) := HG11.out.cell 0
     have g1 : w11.cell? ⟨w.heap.size, 1, none⟩ = some (.int .i64 ((k : Int) + 1)) := HG11.out.cell 1
     have g2 : w11.cell? ⟨w.heap.size, 2, none⟩ = some (.int .i64 xs) := HG11.out.cell 2
     have g3 : w11.cell? ⟨w.heap.size, 3, none⟩ = some (.slice A5 xr.length c5) := HG11.out.cell 3
     have zg := HG11.out.lt
     have HVx := Lib.hid (validG_of HX0.out)
     have hxl : xr.length ≤ 32 := HVx.out.len
     have HRun2 : Hid (FacRun ⟨gt, (n : Int), gs, rs⟩ (ss ++ [(⟨(cmv : Int), hdv, facTo ⟨xt, (k : Int), xs, hrs⟩ L hrs.length, facTail ⟨xt, (k : Int), xs, hrs⟩ L L.length⟩ : StepR)]) ⟨xt, (k : Int) + 1, xs, xr⟩) := Lib.hid (by
      have h1 := FacRun.snoc ss _ m x HRun.out (by show (k : Int) < 10; omega) HAt.out (by rw [← HLq.out, ← HXe.out]; exact HX0.out)
      rw [← HLq.out, ← HXe.out] at h1
      have e : stepOf ⟨xt, (k : Int), xs, hrs⟩ L = (⟨(cmv : Int), hdv, facTo ⟨xt, (k : Int), xs, hrs⟩ L hrs.length, facTail ⟨xt, (k : Int), xs, hrs⟩ L L.length⟩ : StepR) := by unfold stepOf; rw [← HCm.out.1, ← HCm.out.2]
      rw [e] at h1
      exact h1)
     go_wp2_with fail
     refine (group_any ⟨xt, (k : Int) + 1, xs, xr⟩ (k + 1) A5 c5 (fun b => w.heap.size + 1 + 1 ≤ b ∧ b < w11.heap.size ∧ (Value.slice A7 (ss.length + 1) c7).ownBlock ≠ some b) w11 (by rw [Int.natCast_add]; rfl) (by omega) (by (try dsimp only); omega) (fun q hq => by have := (HVx.out.rules q hq).2.2.1; omega) HL5.out.1 HL5.out.2 HE11.out).mono ?_
     rintro e w12 ⟨lv2, l2, rfl, hgr2, hlo2, hln2, hb12⟩
     clear g0 g1 g2 g3 zg
     have HF : Hid (FoI ⟨gt, (n : Int), gs, rs⟩ w (.slice A7 (ss.length + 1) c7) lv2 w12) := Lib.hid ⟨_, ⟨xt, (k : Int) + 1, xs, xr⟩, k + 1, l2, A5, c5, w11.heap.size, HRun2.out, HX0.out, by show (k : Int) + 1 = _; rw [Int.natCast_add]; rfl, by show (k : Int) + 1 = _; rw [snoc_len]; have := HSum.out; (try dsimp only at this ⊢); omega, HG11.out.below hb12 HG11.out.lt, HR11.out.below hb12 HR11.out.lt, HL5.out.1, HL5.out.2, (HE11.out.below hb12).keep (fun _ _ _ => rfl) (fun b hb => ⟨hb.1, by have := hb.2.1; have := hb12.size; omega, hb.2.2⟩), HO11.out.below hb12 (Nat.le_refl _), hgr2, hlo2, hln2, by have := HR11.out.lt; omega, fun b e => (HO11.out.block b e).2, bthen HB11.out hb12 HB11.out.size⟩
     clear hgr2 hlo2 hln2 hb12
     go_wp2
     go_roundw
     case rel => exact HF.out
     case measure => simp [lenV]; omega
    ·have HX0 := Lib.hid hx0
     have hne : (checkI ⟨xt, (k : Int) + 1, xs, xr⟩ != 0) = true := by simpa using hx0
     have HBad : Hid (FacBad ⟨gt, (n : Int), gs, rs⟩ (checkI ⟨xt, (k : Int) + 1, xs, xr⟩)) := Lib.hid (by
      have h1 := FacBad.chk ss _ m x HRun.out (by show (k : Int) < 10; omega) HAt.out (by rw [← HLq.out, ← HXe.out]; exact HX0.out)
      rw [← HLq.out, ← HXe.out] at h1
      exact h1)
     generalize checkI ⟨xt, (k : Int) + 1, xs, xr⟩ = ce at *
     clear hx0
     have r0 : w7.cell? ⟨w.heap.size + 1, 0, none⟩ = some (.int .i64 0) := HR7.out.cell 0
     have fr0 := HR7.out.frozen 0
     have r1 : w7.cell? ⟨w.heap.size + 1, 1, none⟩ = some (.int .i64 0) := HR7.out.cell 1
     have fr1 := HR7.out.frozen 1
     have r2 : w7.cell? ⟨w.heap.size + 1, 2, none⟩ = some (.int .i64 0) := HR7.out.cell 2
     have fr2 := HR7.out.frozen 2
     have r3 : w7.cell? ⟨w.heap.size + 1, 3, none⟩ = some (.slice none 0 0) := HR7.out.cell 3
     have fr3 := HR7.out.frozen 3
     have zr := HR7.out.lt
     go_wp2_with fail
     generalize hwF : World.setCell _ _ _ = wF
     obtain ⟨hRF, kF⟩ := set4F HR7.out (.int .i64 0) (.int .i64 0) (.int .i64 0) (.slice none 0 0)
     rw [hwF] at hRF kF
     have u0 : wF.cell? ⟨w.heap.size + 1, 0, none⟩ = some (.int .i64 0) := hRF.cell 0
     have u1 : wF.cell? ⟨w.heap.size + 1, 1, none⟩ = some (.int .i64 0) := hRF.cell 1
     have u2 : wF.cell? ⟨w.heap.size + 1, 2, none⟩ = some (.int .i64 0) := hRF.cell 2
     have u3 : wF.cell? ⟨w.heap.size + 1, 3, none⟩ = some (.slice none 0 0) := hRF.cell 3
     have zF := kF.size
     refine bodyPost_ret (v := .tuple #[.agg #[.int .i64 0, .int .i64 0, .int .i64 0, .slice none 0 0], .slice none 0 0, .int .i64 ce]) (by simp [results, Try.results19, go_sem, u0, u1, u2, u3]) rfl ?_
     exact .inl ⟨ce, HBad.out, rfl, HB7.out.trans (kF.to_below (B := w.heap.size) (fun b hb => by omega) HB7.out.size)⟩
end Go.Proofs.Ytjdojogjogenkaa
