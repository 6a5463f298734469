/- Contract: parllaw2.mirrored. -/
import Derived.Test.YtaidadjekfcacaaDoorQp1
import Derived.StillTailTactics
import Derived.Deep.Cut
import Derived.Deep.DeepCutAuto
import Derived.IntWalk
import Derived.BigRegion
import Derived.BigQuiet
import Derived.Deep.QuietTactic
import Derived.Deep.RegionHeld3
import Derived.Deep.RegionLaw
namespace Go.Proofs.YtaidadjekfcacaaDoor
open Go.RowKit
set_option linter.unusedVariables false

def RetMi (t : Tree) (w : World) (e : Ending) (w' : World) : Prop :=
  ∃ (A : Option Addr) (c : Nat), e = .returned (.agg #[.int .i64 t.rule, .int .i64 t.term, .slice A t.kids.length c]) ∧ I64 t.rule ∧ I64 t.term ∧ t.kids.length ≤ c ∧ c ≤ 9223372036854775807 ∧ Els w' (fun b => w.heap.size ≤ b ∧ b < w'.heap.size) t.kids A ∧ Below w.heap.size w w'
def MirB (r t : Int) (n : Nat) (w1 : World) (p : Value) (wx : World) : Prop :=
  ∃ O K : Nat, p = .pointer (some ⟨O, 0, none⟩) ∧ ¬ K = O ∧ w1.heap.size ≤ K ∧ w1.heap.size ≤ O ∧ Blk' wx O 50 #[.int .i64 r, .int .i64 t, .slice (some ⟨K, 0, none⟩) n n] ∧ Blk' wx K 50 (madeCells tz3 (n * 3)) ∧ Below w1.heap.size w1 wx
def MirI (r t : Int) (ks : List Tree) (O K : Nat) (w1 : World) (i : Value) (wr : World) : Prop :=
  ∃ m : Nat, m ≤ ks.length ∧ i = .int .i64 m ∧ RowT wr K (mirK ks m) ∧ Blk' wr O 50 #[.int .i64 r, .int .i64 t, .slice (some ⟨K, 0, none⟩) ks.length ks.length] ∧ Below w1.heap.size w1 wr

set_option maxRecDepth 100000 in
set_option maxHeartbeats 4000000 in
theorem mirrored_any (S : Nat → Prop) : ∀ (t : Tree) (B : Option Addr) (d : Nat) (w : World), I64 t.rule → I64 t.term → nodesT t ≤ 1100000 → t.kids.length ≤ d → d ≤ 9223372036854775807 → Els w S t.kids B →
    Calls Tryd.prog 24 #[.agg #[.int .i64 t.rule, .int .i64 t.term, .slice B t.kids.length d]] w (RetMi (mirT t) w) := by
  refine Tree.indM ?_
  intro r t ks ih B d w hr ht hnd hld hd hB
  have IH := Lib.hid ih
  dsimp only [Tree.rule, Tree.term, Tree.kids] at hr ht hnd hld hd hB ⊢
  have HI : Hid (I64 r ∧ I64 t) := Lib.hid ⟨hr, ht⟩
  have hkn : ks.length ≤ 1100000 := by have := len_nodes ks; unfold nodesT at hnd; omega
  have HNd : Hid (∀ k ∈ ks, nodesT k ≤ 1100000) := Lib.hid (fun k hk => by have := nodes_mem hk; unfold nodesT at hnd; omega)
  obtain ⟨w1, hw1⟩ : ∃ w1 : World, w1 = (w.alloc (.cells #[.int .i64 r, .int .i64 t, .slice B ks.length d] 50)).alloc (.cells #[.int .i64 0, .int .i64 0, .slice none 0 0] 50) := ⟨_, rfl⟩
  have hb1 : Below w.heap.size w w1 := by rw [hw1]; exact ((Below.refl _ _).alloc (Nat.le_refl _) _).alloc (by simp) _
  have hT1 : Blk' w1 w.heap.size 50 #[.int .i64 r, .int .i64 t, .slice B ks.length d] := by rw [hw1]; exact (Blk'.new w _ _).alloc _
  have hR1 : Blk' w1 (w.heap.size + 1) 50 #[.int .i64 0, .int .i64 0, .slice none 0 0] := by rw [hw1]; exact Blk'.new' _ _ _ (by simp)
  have HB1 := Lib.hid hb1
  have HT1 := Lib.hid hT1
  have HR1 := Lib.hid hR1
  have HE1 := Lib.hid (hB.below hb1)
  have HW1 := Lib.hid hw1
  have t0 : w1.cell? ⟨w.heap.size, 0, none⟩ = some (.int .i64 r) := hT1.cell 0
  have t1 : w1.cell? ⟨w.heap.size, 1, none⟩ = some (.int .i64 t) := hT1.cell 1
  have t2 : w1.cell? ⟨w.heap.size, 1 + 1, none⟩ = some (.slice B ks.length d) := hT1.cell 2
  have t2' : w1.cell? ⟨w.heap.size, 2, none⟩ = some (.slice B ks.length d) := hT1.cell 2
  have zT : w.heap.size < w1.heap.size := hT1.lt
  have zR : w.heap.size + 1 < w1.heap.size := hR1.lt
  have hmk := mkTrees ks.length (by omega)
  clear ih hr ht hnd hw1 hb1 hT1 hR1 hB
  go_enter Tryd.func24, Tryd.ntmps24
  go_upto_region 1 with (fail)
  rw [← HW1.out]
  go_cut [3] (fun p wx => MirB r t ks.length w1 p wx)
  case first =>
    go_region
    all_goals
      go_wp2_with fail
      go_meet
      first
      | (refine ⟨w1.heap.size + 1, w1.heap.size, rfl, by omega, Nat.le_refl _, Nat.le_succ _, ?_, ?_, (((Below.refl _ _).alloc (by first | exact Nat.le_refl _ | (simp; done) | (simp; omega)) _).alloc (by first | exact Nat.le_refl _ | (simp; done) | (simp; omega)) _).drew⟩ <;> first | exact (Blk'.new _ _ _).alloc _ | exact Blk'.new' _ _ _ (by simp))
      | (refine ⟨w1.heap.size, w1.heap.size + 1, rfl, by omega, Nat.le_succ _, Nat.le_refl _, ?_, ?_, (((Below.refl _ _).alloc (by first | exact Nat.le_refl _ | (simp; done) | (simp; omega)) _).alloc (by first | exact Nat.le_refl _ | (simp; done) | (simp; omega)) _).drew⟩ <;> first | exact (Blk'.new _ _ _).alloc _ | exact Blk'.new' _ _ _ (by simp))
      | trace_state
  case rest =>
    obtain ⟨O, K, rfl, hKO, hK1, hO1, hbO, hbK, hbz⟩ := hcut
    have HRw := Lib.hid (RowT.made hbK)
    have HO := Lib.hid hbO
    have HBz := Lib.hid hbz
    have HTc := Lib.hid (HT1.out.below hbz HT1.out.lt)
    have c2 : wc.cell? ⟨w.heap.size, 2, none⟩ = some (.slice B ks.length d) := HTc.out.cell 2
    have zc : w.heap.size < wc.heap.size := HTc.out.lt
    have hks9 : ks.length ≤ 9223372036854775807 := by omega
    clear t0 t1 t2 t2' hmk hbO hbK hbz
    go_wp2_with fail
    go_loopw [18] (fun i wr => MirI r t ks O K w1 i wr) (fun i _ => ks.length - (intOf i).toNat)
    case atStart => exact ⟨0, Nat.zero_le _, rfl, by rw [mirK_zero]; exact HRw.out, HO.out, HBz.out⟩
    case round =>
      obtain ⟨wo, hwo⟩ : ∃ wo : World, wo = wr := ⟨_, rfl⟩
      subst hwo
      obtain ⟨m, hm, rfl, hrow, hO, hb⟩ := hrel
      have HRo := Lib.hid hrow
      have HOo := Lib.hid hO
      have HB := Lib.hid hb
      have zo1 : w1.heap.size ≤ wo.heap.size := hb.size
      clear hrow hO hb c2
      by_cases hlt : m < ks.length
      · obtain ⟨x, hx⟩ := get_some hlt
        obtain ⟨bk, ok, Ax, cx, rfl, hSk, hbk, hxi, hxt, hx1, hx2, hEx, kc0, kc1, kc2⟩ := (HE1.out.below HB.out).tree hx
        obtain ⟨w3, hw3⟩ : ∃ w3 : World, w3 = wo.alloc (.cells #[.int .i64 x.rule, .int .i64 x.term, .slice Ax x.kids.length cx] 50) := ⟨_, rfl⟩
        have hba : Below wo.heap.size wo w3 := by rw [hw3]; exact (Below.refl _ _).alloc (Nat.le_refl _) _
        have hXb : Blk' w3 wo.heap.size 50 #[.int .i64 x.rule, .int .i64 x.term, .slice Ax x.kids.length cx] := by rw [hw3]; exact Blk'.new _ _ _
        have HW3 := Lib.hid hw3
        have HX := Lib.hid (And.intro (List.mem_of_getElem? hx) (And.intro hxi (And.intro hxt (And.intro hx1 (And.intro hx2 (hEx.below hba))))))
        have HSet := Lib.hid (mirK_set hx)
        have HBa := Lib.hid hba
        have HR3 := Lib.hid (HRo.out.below hba)
        have HO3 := Lib.hid (HOo.out.below hba HOo.out.lt)
        have HT3 := Lib.hid ((HT1.out.below HB.out HT1.out.lt).below hba (by omega))
        have hm0 : (0 : Int) ≤ (m : Int) := by omega
        have hm1 : (m : Int) < (ks.length : Int) := by omega
        obtain ⟨j, hj⟩ : ∃ j : Nat, j = ks.length - 1 - m := ⟨_, rfl⟩
        have hw9 : IntKind.i64.wrap ((ks.length : Int) - 1) = (ks.length : Int) - 1 := IntWalk.i64_in _ (by omega)
        have hw8 : IntKind.i64.wrap ((ks.length : Int) - 1 - (m : Int)) = (j : Int) := by rw [IntWalk.i64_in _ (by omega)]; omega
        have hw7 : IntKind.i64.wrap ((m : Int) + 1) = (m : Int) + 1 := IntWalk.i64_in _ (by omega)
        have j0 : (0 : Int) ≤ (j : Int) := by omega
        have j1 : (j : Int) < (ks.length : Int) := by omega
        have hjl : j < ks.length := by omega
        have x0 : w3.cell? ⟨wo.heap.size, 0, none⟩ = some (.int .i64 x.rule) := hXb.cell 0
        have x1 : w3.cell? ⟨wo.heap.size, 1, none⟩ = some (.int .i64 x.term) := hXb.cell 1
        have x2 : w3.cell? ⟨wo.heap.size, 2, none⟩ = some (.slice Ax x.kids.length cx) := hXb.cell 2
        have a2 : w3.cell? ⟨O, 2, none⟩ = some (.slice (some ⟨K, 0, none⟩) ks.length ks.length) := HO3.out.cell 2
        have b2 : w3.cell? ⟨w.heap.size, 2, none⟩ = some (.slice (some ⟨bk, ok, none⟩) ks.length d) := HT3.out.cell 2
        have zX : wo.heap.size < w3.heap.size := hXb.lt
        have zO3 : O < w3.heap.size := HO3.out.lt
        have zT3 : w.heap.size < w3.heap.size := HT3.out.lt
        have zKo : K < wo.heap.size := HRo.out.lt
        have HJ := Lib.hid hj
        clear hx hxi hxt hEx hba hXb hw3 hj hSk
        go_upto_region 5 with (fail)
        rw [← HW3.out]
        clear kc0 kc1 kc2
        go_region_law
          (first
          | (go_simp
             go_at_call 24
             refine (IH.out x HX.out.1 Ax cx _ HX.out.2.1 HX.out.2.2.1 (HNd.out x HX.out.1) HX.out.2.2.2.1 HX.out.2.2.2.2.1 (HX.out.2.2.2.2.2.below (Below.refl _ _).drew)).mono ?_
             rintro e w5 ⟨A5, d5, rfl, q1, q2, q3, q4, q5, hb5⟩
             have HQ := Lib.hid (And.intro q1 (And.intro q2 (And.intro q3 (And.intro q4 q5))))
             have H5 := Lib.hid (bundrew hb5)
             clear q1 q2 q3 q4 q5 hb5
             have n0 := (H5.out.cell (p := ⟨wo.heap.size, 0, none⟩) zX).trans x0
             have n1 := (H5.out.cell (p := ⟨wo.heap.size, 1, none⟩) zX).trans x1
             have n2 := (H5.out.cell (p := ⟨wo.heap.size, 2, none⟩) zX).trans x2
             have n3 := (H5.out.cell (p := ⟨O, 2, none⟩) zO3).trans a2
             have n4 := (H5.out.cell (p := ⟨w.heap.size, 2, none⟩) zT3).trans b2
             have HR5 := Lib.hid (HR3.out.below H5.out)
             have HO5 := Lib.hid (HO3.out.below H5.out zO3)
             obtain ⟨y, hy⟩ := get_some (xs := mirK ks m) (k := j) (by rw [mirK_len hm]; exact hjl)
             obtain ⟨Ay, cy, y0, y1, y2⟩ := HR5.out.cells hy
             have y3 : w5.cell? ⟨K, j * 3 + 1 + 1, none⟩ = some (.slice Ay y.kids.length cy) := y2
             have f0 := HR5.out.frozen (j * 3)
             have f1 := HR5.out.frozen (j * 3 + 1)
             have f2 := HR5.out.frozen (j * 3 + 1 + 1)
             have zK5 := HR5.out.lt
             clear hy y2))
        all_goals
          go_wp2
          go_roundw
          case rel =>
            have hz5 := H5.out.size
            refine ⟨m + 1, hlt, by go_num, ?_, ?_, ?_⟩
            · rw [← HSet.out, ← HJ.out]
              exact (HR5.out.put (by rw [mirK_len hm]; exact hjl) (mirT x) A5 d5 HQ.out.1 HQ.out.2.1 HQ.out.2.2.1 HQ.out.2.2.2.1 (HQ.out.2.2.2.2.keep (fun _ _ _ => rfl) (fun b hb => ⟨by have h1 : w3.heap.size ≤ b := hb.1; omega, hb.2⟩)))
            · exact ((HO5.out.far (p := ⟨K, j * 3, none⟩) (fun e => hKO e.symm) _).far (p := ⟨K, j * 3 + 1, none⟩) (fun e => hKO e.symm) _).far (p := ⟨K, j * 3 + 2, none⟩) (fun e => hKO e.symm) _
            · exact (((bthen (bthen HB.out HBa.out HB.out.size) H5.out (bthen HB.out HBa.out HB.out.size).size).setCell (p := ⟨K, j * 3, none⟩) hK1 _).setCell (p := ⟨K, j * 3 + 1, none⟩) hK1 _).setCell (p := ⟨K, j * 3 + 2, none⟩) hK1 _
          case measure => simp [intOf]; omega
      · have hmm : m = ks.length := by omega
        have HF : Hid (RowT wo K (mirT ⟨r, t, ks⟩).kids) := Lib.hid (by have h := HRo.out; rw [hmm, mirK_all] at h; rw [mirT_eq]; exact h)
        have HFl : Hid ((mirT ⟨r, t, ks⟩).kids.length = ks.length) := Lib.hid (by rw [mirT_eq]; show (ks.map mirT).reverse.length = _; simp)
        have HFr : Hid ((mirT ⟨r, t, ks⟩).rule = r ∧ (mirT ⟨r, t, ks⟩).term = t) := Lib.hid (by rw [mirT_eq]; exact ⟨rfl, rfl⟩)
        have HBk := Lib.hid (bthen HB1.out HB.out HB1.out.size)
        have hRo := HR1.out.below HB.out zR
        have HRr := Lib.hid hRo
        have o0 : wo.cell? ⟨O, 0, none⟩ = some (.int .i64 r) := HOo.out.cell 0
        have o1 : wo.cell? ⟨O, 1, none⟩ = some (.int .i64 t) := HOo.out.cell 1
        have o2 : wo.cell? ⟨O, 2, none⟩ = some (.slice (some ⟨K, 0, none⟩) ks.length ks.length) := HOo.out.cell 2
        have zO : O < wo.heap.size := HOo.out.lt
        have zRo : w.heap.size + 1 < wo.heap.size := by omega
        have r0 := ((((hRo.set_ 0 (.int .i64 r)).set_ 1 (.int .i64 t)).set_ 2 (.slice (some ⟨K, 0, none⟩) ks.length ks.length))).cell 0
        have r1 := ((((hRo.set_ 0 (.int .i64 r)).set_ 1 (.int .i64 t)).set_ 2 (.slice (some ⟨K, 0, none⟩) ks.length ks.length))).cell 1
        have r2 := ((((hRo.set_ 0 (.int .i64 r)).set_ 1 (.int .i64 t)).set_ 2 (.slice (some ⟨K, 0, none⟩) ks.length ks.length))).cell 2
        have c0 := hRo.cell 0
        have c1 := hRo.cell 1
        have c2 := hRo.cell 2
        have f0 := hRo.frozen 0
        have f1 := hRo.frozen 1
        have f2 := hRo.frozen 2
        simp at r0 r1 r2 c0 c1 c2
        clear hRo hmm
        go_wp2
        have hkx := (((Kept.refl (fun b => b = w.heap.size + 1) wo).setCell (p := ⟨w.heap.size + 1, 0, none⟩) (.inl rfl) (.int .i64 r)).setCell (p := ⟨w.heap.size + 1, 1, none⟩) (.inl rfl) (.int .i64 t)).setCell (p := ⟨w.heap.size + 1, 2, none⟩) (.inl rfl) (.slice (some ⟨K, 0, none⟩) ks.length ks.length)
        refine bodyPost_ret (v := .agg #[.int .i64 r, .int .i64 t, .slice (some ⟨K, 0, none⟩) ks.length ks.length]) (by simp [results, Tryd.results24, go_sem, r0, r1, r2]) rfl ⟨some ⟨K, 0, none⟩, ks.length, by rw [HFr.out.1, HFr.out.2, HFl.out], by rw [HFr.out.1]; exact HI.out.1, by rw [HFr.out.2]; exact HI.out.2, by rw [HFl.out]; exact Nat.le_refl _, by omega, ?_, ?_⟩
        · exact ((HF.out.kept hkx (fun b (e : b = w.heap.size + 1) => .inl (by omega))).els).keep (fun _ _ _ => rfl) (fun b hb => ⟨by have h1 : K ≤ b := hb.1; omega, hb.2⟩)
        · exact HBk.out.trans (hkx.to_below (B := w.heap.size) (fun b (hb : b = w.heap.size + 1) => by omega) HBk.out.size)
end Go.Proofs.YtaidadjekfcacaaDoor
