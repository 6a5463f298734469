/- Contract: prec.Back. -/
import Derived.Test.YtnphbbhnfkjlcaaQp1
import Derived.Test.YtnphbbhnfkjlcaaQGTree
import Derived.StillTailTactics
import Derived.Deep.RegionLaw
namespace Go.Proofs.Ytnphbbhnfkjlcaa
open Go.RowKit
set_option linter.unusedVariables false

/-- The world of prec.Back's closure: the numbers and the closure in their boxes. -/
structure BkS (TB VB : Nat) (Sr : Nat → Prop) (tos : List Int) (A : Option Addr) (c : Nat) (w : World) : Prop where
  row : Blk' w TB 38 #[.slice A tos.length c]
  els : Els w Sr tos A
  fn : Blk' w VB 151 #[.func (.func 79) #[] #[.pointer (some ⟨TB, 0, none⟩), .pointer (some ⟨VB, 0, none⟩)]]
theorem BkS.below {TB VB : Nat} {Sr : Nat → Prop} {tos : List Int} {A : Option Addr} {c : Nat} {w w' : World} (h : BkS TB VB Sr tos A c w) (hb : Below w.heap.size w w') : BkS TB VB Sr tos A c w' :=
  ⟨h.row.below hb h.row.lt, h.els.below hb, h.fn.below hb h.fn.lt⟩
def RetT (t : Tree) (w : World) (e : Ending) (w' : World) : Prop :=
  ∃ (A : Option Addr) (c : Nat), e = .returned (.agg #[.int .i64 t.rule, .int .i64 t.term, .slice A t.kids.length c]) ∧ I64 t.rule ∧ I64 t.term ∧ t.kids.length ≤ c ∧ c ≤ 9223372036854775807 ∧ Els w' (fun b => w.heap.size ≤ b ∧ b < w'.heap.size) t.kids A ∧ Below w.heap.size w w'
theorem backL_take (tos : List Int) : ∀ (ks : List Tree) (m : Nat) (k : Tree), ks[m]? = some k → backL tos (ks.take (m + 1)) = backL tos (ks.take m) ++ [backT tos k]
  | [], m, k, h => by simp at h
  | x :: ks, 0, k, h => by simp at h; subst h; simp [backL]
  | x :: ks, m + 1, k, h => by
    simp only [List.take_succ_cons, backL, List.cons_append]
    rw [backL_take tos ks m k (by simpa using h)]
theorem backL_len (tos : List Int) : ∀ (ks : List Tree), (backL tos ks).length = ks.length
  | [] => rfl
  | x :: ks => by simp [backL, backL_len tos ks]
theorem I64.of_mem {tos : List Int} {w : World} {S : Nat → Prop} {A : Option Addr} (h : Els w S tos A) {i : Nat} {v : Int} (hv : tos[i]? = some v) : I64 v := by
  obtain ⟨_, _, _, _, _, h1, _⟩ := h.int hv
  exact h1
theorem grown_cell {w w' : World} {row : Option Nat} (hg : w.grownBy w' row) {b o : Nat} {v : Value} (h : w.cell? ⟨b, o, none⟩ = some v) (hne : row ≠ some b) : w'.cell? ⟨b, o, none⟩ = some v :=
  (World.cell?_of_block (a := ⟨b, o, none⟩) (hg.block b (World.block_lt_of_cell? w _ h) (fun e => hne e.symm))).trans h
theorem alloc_cell {w : World} {b o : Nat} {v : Value} (h : w.cell? ⟨b, o, none⟩ = some v) (ob : Obj) : (w.alloc ob).cell? ⟨b, o, none⟩ = some v :=
  (((Below.refl w.heap.size w).alloc (Nat.le_refl _) ob).cell (p := ⟨b, o, none⟩) (World.block_lt_of_cell? w _ h)).trans h
def BkL (TB VB : Nat) (Sr : Nat → Prop) (tos : List Int) (A : Option Addr) (c : Nat) (r : Int) (ks : List Tree) (w : World) (O : Nat) (i : Value) (wr : World) : Prop :=
  ∃ (m : Nat) (v : Value), m ≤ ks.length ∧ i = .int .i64 m ∧ Below w.heap.size w wr ∧ Blk' wr O 41 #[.int .i64 r, .int .i64 0, v] ∧ Own wr (fun _ => False) (O + 1) 41 v (backL tos (ks.take m))

set_option maxRecDepth 100000 in
set_option maxHeartbeats 1000000 in
theorem leaf_any (a : Int) (w : World) : Calls Try.prog 80 #[.int .i64 a] w fun e w' => e = .returned (.agg #[.int .i64 (-1), .int .i64 a, .slice none 0 0]) ∧ Below w.heap.size w w' := by
  go_enter Try.func80, Try.ntmps80
  go_wp2
  exact bodyPost_ret (v := .agg #[.int .i64 (-1), .int .i64 a, .slice none 0 0]) (by simp [results, Try.results80, go_sem]) rfl ⟨rfl, (Below.refl _ _).alloc (Nat.le_refl _) _⟩

set_option maxRecDepth 100000 in
set_option maxHeartbeats 4000000 in
theorem back1_any (TB VB : Nat) (Sr S : Nat → Prop) (tos : List Int) (A : Option Addr) (c : Nat) (hlc : tos.length ≤ 1000000) : ∀ (t : Tree) (B : Option Addr) (d : Nat) (w : World), okB tos t → I64 t.term → t.kids.length ≤ d → d ≤ 9223372036854775807 → Els w S t.kids B → BkS TB VB Sr tos A c w →
    Calls Try.prog 79 #[.agg #[.int .i64 t.rule, .int .i64 t.term, .slice B t.kids.length d], .pointer (some ⟨TB, 0, none⟩), .pointer (some ⟨VB, 0, none⟩)] w (RetT (backT tos t) w) := by
  refine Tree.ind ?_
  intro r t ks ih B d w hok ht hld hd hB hst
  have IH := Lib.hid ih
  have ht' : I64 t := ht
  dsimp only [Tree.rule, Tree.term, Tree.kids] at *
  obtain ⟨w1, hw1⟩ : ∃ w1 : World, w1 = (w.alloc (.cells #[.int .i64 r, .int .i64 t, .slice B ks.length d] 41)).alloc (.cells #[.int .i64 0, .int .i64 0, .slice none 0 0] 41) := ⟨_, rfl⟩
  have hb1 : Below w.heap.size w w1 := by rw [hw1]; exact ((Below.refl _ _).alloc (Nat.le_refl _) _).alloc (by simp) _
  have hT1 : Blk' w1 w.heap.size 41 #[.int .i64 r, .int .i64 t, .slice B ks.length d] := by rw [hw1]; exact (Blk'.new w _ _).alloc _
  have hR1 : Blk' w1 (w.heap.size + 1) 41 #[.int .i64 0, .int .i64 0, .slice none 0 0] := by rw [hw1]; exact Blk'.new' _ _ _ (by simp)
  have hS1 := hst.below hb1
  have hB1 := hB.below hb1
  have t0 : w1.cell? ⟨w.heap.size, 0, none⟩ = some (.int .i64 r) := hT1.cell 0
  have t1 : w1.cell? ⟨w.heap.size, 1, none⟩ = some (.int .i64 t) := hT1.cell 1
  have t2 : w1.cell? ⟨w.heap.size, 2, none⟩ = some (.slice B ks.length d) := hT1.cell 2
  have b0 : w1.cell? ⟨TB, 0, none⟩ = some (.slice A tos.length c) := hS1.row.cell 0
  have v0 : w1.cell? ⟨VB, 0, none⟩ = some (.func (.func 79) #[] #[.pointer (some ⟨TB, 0, none⟩), .pointer (some ⟨VB, 0, none⟩)]) := hS1.fn.cell 0
  have zT : w.heap.size < w1.heap.size := hT1.lt
  have zR : w.heap.size + 1 < w1.heap.size := hR1.lt
  have zTB : TB < w1.heap.size := hS1.row.lt
  have zVB : VB < w1.heap.size := hS1.fn.lt
  have HW1 := Lib.hid hw1
  have H1 := Lib.hid (And.intro hb1 (And.intro hT1 (And.intro hR1 (And.intro hS1 hB1))))
  have HT := Lib.hid ht
  clear ih hw1 hb1 hT1 hR1 hS1 hB1 ht ht' hst hB
  unfold okB at hok
  rcases hok with ⟨rfl, rfl⟩ | ⟨hr0, rfl, hkl, v, hv, hvn, hks⟩
  · have HE := Lib.hid (show backT tos ⟨-1, t, []⟩ = ⟨-1, t, []⟩ by simp [backT])
    have HW1 := Lib.hid (show w1 = (w.alloc (.cells #[.int .i64 (-1), .int .i64 t, .slice B 0 d] 41)).alloc (.cells #[.int .i64 0, .int .i64 0, .slice none 0 0] 41) from HW1.out)
    go_enter Try.func79, Try.ntmps79
    go_wp2_with fail
    rw [← HW1.out]
    refine (leaf_any _ _).mono ?_
    rintro e w2 ⟨rfl, hb2⟩
    have hR2 := H1.out.2.2.1.below hb2 zR
    have HR2 := Lib.hid hR2
    have HB2 := Lib.hid (bthen H1.out.1 hb2 H1.out.1.size)
    have r0 := ((((hR2.set_ 0 (.int .i64 (-1))).set_ 1 (.int .i64 t)).set_ 2 (.slice none 0 0))).cell 0
    have r1 := ((((hR2.set_ 0 (.int .i64 (-1))).set_ 1 (.int .i64 t)).set_ 2 (.slice none 0 0))).cell 1
    have r2 := ((((hR2.set_ 0 (.int .i64 (-1))).set_ 1 (.int .i64 t)).set_ 2 (.slice none 0 0))).cell 2
    have c0 := hR2.cell 0
    have c1 := hR2.cell 1
    have c2 := hR2.cell 2
    have f0 := hR2.frozen 0
    have f1 := hR2.frozen 1
    have f2 := hR2.frozen 2
    clear hb2 hR2 t0 t1 t2 b0 v0
    simp at r0 r1 r2 c0 c1 c2
    go_wp2
    exact bodyPost_ret (v := .agg #[.int .i64 (-1), .int .i64 t, .slice none 0 0]) (by simp [results, Try.results79, go_sem, r0, r1, r2]) rfl ⟨none, 0, by rw [HE.out]; rfl, by rw [HE.out]; exact ⟨(by decide : (-9223372036854775808 : Int) ≤ -1), (by decide : (-1 : Int) ≤ 9223372036854775807)⟩, by rw [HE.out]; exact HT.out, by rw [HE.out]; exact Nat.le_refl _, by omega, by rw [HE.out]; exact fun h => absurd rfl h,
      ((HB2.out.setCell (p := ⟨w.heap.size + 1, 0, none⟩) (by show w.heap.size ≤ w.heap.size + 1; omega) _).setCell (p := ⟨w.heap.size + 1, 1, none⟩) (by show w.heap.size ≤ w.heap.size + 1; omega) _).setCell (p := ⟨w.heap.size + 1, 2, none⟩) (by show w.heap.size ≤ w.heap.size + 1; omega) _⟩
  · have hr1 : r.toNat < tos.length := (List.getElem?_eq_some_iff.1 hv).1
    have hr11 : r < (tos.length : Int) := by omega
    have hrn : ¬ r < 0 := by omega
    have hlm : tos.length ≤ 9223372036854775807 := by omega
    obtain ⟨ba, oa, rfl, _, hba, hv64, hva⟩ := H1.out.2.2.2.1.els.int hv
    have HV64 := Lib.hid hv64
    have hgd : tos.getD r.toNat 0 = v := by rw [List.getD_eq_getElem?_getD, hv]; rfl
    by_cases hv0 : v < 0
    · have hne := hvn hv0
      obtain ⟨k, hk⟩ := get_some (show 0 < ks.length by cases ks with | nil => exact absurd rfl hne | cons a l => simp)
      · have HE := Lib.hid (show backT tos ⟨r, 0, ks⟩ = backT tos k by
          rw [backT, if_neg hrn, hgd, if_pos hv0]
          cases ks with
          | nil => simp at hk
          | cons a l => simp at hk; subst hk; rfl)
        have hok1 : okB tos k := okBs_mem tos ks hks k (List.mem_of_getElem? hk)
        have HKm := Lib.hid (List.mem_of_getElem? hk)
        obtain ⟨bk, ok, Ax, cx, rfl, hSk, hbk, hxi, hxt, hx1, hx2, hEx, kc0, kc1, kc2⟩ := H1.out.2.2.2.2.tree hk
        have hk0 : 0 < ks.length := (List.getElem?_eq_some_iff.1 hk).1
        have HK := Lib.hid (And.intro hok1 (And.intro hxt (And.intro hx1 (And.intro hx2 hEx))))
        have HX := Lib.hid (And.intro hbk H1.out.2.2.2.1)
        have k0 : w1.cell? ⟨bk, ok, none⟩ = some (.int .i64 k.rule) := by simpa using kc0
        have k1 : w1.cell? ⟨bk, ok + 1, none⟩ = some (.int .i64 k.term) := by simpa using kc1
        have k2 : w1.cell? ⟨bk, ok + 1 + 1, none⟩ = some (.slice Ax k.kids.length cx) := by simpa using kc2
        clear hk hv hvn hks hgd hne hok1 hxi hxt hEx kc0 kc1 kc2 hv64
        go_enter Try.func79, Try.ntmps79
        go_upto_region 1 with (fail)
        rw [← HW1.out]
        go_wp2_with fail
        go_still_tail 5, (by kernel_rfl)
        change wpList _ _ _ _ _ w1.drew
        go_wp2_with fail
        refine (IH.out k HKm.out Ax cx _ HK.out.1 HK.out.2.1 HK.out.2.2.1 HK.out.2.2.2.1 (HK.out.2.2.2.2.below (Below.refl _ _).drew) (HX.out.2.below (Below.refl _ _).drew)).mono ?_
        rintro e w2 ⟨A2, d2, rfl, j1, j2, j3, j4, j5, hb2⟩
        have HJ := Lib.hid (And.intro j1 (And.intro j2 (And.intro j3 (And.intro j4 j5))))
        have hR2 := H1.out.2.2.1.below (bundrew hb2) zR
        have HB2 := Lib.hid (bthen H1.out.1 (bundrew hb2) H1.out.1.size)
        have r0 := ((((hR2.set_ 0 (.int .i64 (backT tos k).rule)).set_ 1 (.int .i64 (backT tos k).term)).set_ 2 (.slice A2 (backT tos k).kids.length d2))).cell 0
        have r1 := ((((hR2.set_ 0 (.int .i64 (backT tos k).rule)).set_ 1 (.int .i64 (backT tos k).term)).set_ 2 (.slice A2 (backT tos k).kids.length d2))).cell 1
        have r2 := ((((hR2.set_ 0 (.int .i64 (backT tos k).rule)).set_ 1 (.int .i64 (backT tos k).term)).set_ 2 (.slice A2 (backT tos k).kids.length d2))).cell 2
        have c0 := hR2.cell 0
        have c1 := hR2.cell 1
        have c2 := hR2.cell 2
        have f0 := hR2.frozen 0
        have f1 := hR2.frozen 1
        have f2 := hR2.frozen 2
        have hzz : w.heap.size ≤ w1.heap.size := H1.out.1.size
        clear j1 j2 j3 j4 j5 hb2 hR2 t0 t1 t2 b0 v0 k0 k1 k2
        simp at r0 r1 r2 c0 c1 c2
        go_wp2
        refine bodyPost_ret (v := .agg #[.int .i64 (backT tos k).rule, .int .i64 (backT tos k).term, .slice A2 (backT tos k).kids.length d2]) (by simp [results, Try.results79, go_sem, r0, r1, r2]) rfl ⟨A2, _, by rw [HE.out], by rw [HE.out]; exact HJ.out.1, by rw [HE.out]; exact HJ.out.2.1, by rw [HE.out]; exact HJ.out.2.2.1, HJ.out.2.2.2.1, ?_, ?_⟩
        · rw [HE.out]
          have hkx := (((Kept.refl (fun b => b = w.heap.size + 1) w2).setCell (p := ⟨w.heap.size + 1, 0, none⟩) (.inl rfl) (.int .i64 (backT tos k).rule)).setCell (p := ⟨w.heap.size + 1, 1, none⟩) (.inl rfl) (.int .i64 (backT tos k).term)).setCell (p := ⟨w.heap.size + 1, 2, none⟩) (.inl rfl) (.slice A2 (backT tos k).kids.length d2)
          exact (HJ.out.2.2.2.2.kept hkx (fun b hb e => by have := hb.1; simp at this; omega)).keep (fun _ _ _ => rfl) (fun b hb => ⟨by have := hb.1; simp at this; omega, by have := hb.2; simpa [World.setCell] using this⟩)
        · exact ((HB2.out.setCell (p := ⟨w.heap.size + 1, 0, none⟩) (by show w.heap.size ≤ w.heap.size + 1; omega) _).setCell (p := ⟨w.heap.size + 1, 1, none⟩) (by show w.heap.size ≤ w.heap.size + 1; omega) _).setCell (p := ⟨w.heap.size + 1, 2, none⟩) (by show w.heap.size ≤ w.heap.size + 1; omega) _
    · have HE := Lib.hid (show backT tos ⟨r, 0, ks⟩ = ⟨v, 0, backL tos ks⟩ by rw [backT, if_neg hrn, hgd, if_neg hv0])
      have HKs := Lib.hid (okBs_mem tos ks hks)
      have hO : Below w1.heap.size w1 (w1.alloc (.cells #[.int .i64 v, .int .i64 0, .slice none 0 0] 41)) := (Below.refl _ _).alloc (Nat.le_refl _) _
      have HO := Lib.hid (And.intro hO (Blk'.new w1 41 #[.int .i64 v, .int .i64 0, .slice none 0 0]))
      clear hv hvn hks hgd hv64 hO
      go_enter Try.func79, Try.ntmps79
      go_upto_region 1 with (fail)
      rw [← HW1.out]
      go_wp2_with fail
      go_loopw [35] (fun i wr => BkL TB VB Sr tos (some ⟨ba, oa, none⟩) c v ks w1 w1.heap.size i wr) (fun i _ => ks.length - (intOf i).toNat)
      case atStart => exact ⟨0, _, Nat.zero_le _, rfl, HO.out.1, HO.out.2, Own.nil _ _ _ _⟩
      case round =>
        obtain ⟨wo, hwo⟩ : ∃ wo : World, wo = wr := ⟨_, rfl⟩
        subst hwo
        obtain ⟨m, av, hm, rfl, hb, hO, hown⟩ := hrel
        have HB := Lib.hid hb
        have HOo := Lib.hid hO
        have HOw := Lib.hid hown
        have zO : w1.heap.size < wo.heap.size := hO.lt
        have o2 : wo.cell? ⟨w1.heap.size, 2, none⟩ = some av := hO.cell 2
        have of2 := hO.frozen 2
        have zVo : VB < wo.heap.size := by omega
        have zRo : w.heap.size + 1 < wo.heap.size := by omega
        clear hb hO hown t0 t1 t2 b0 hva
        by_cases hlt : m < ks.length
        · obtain ⟨x, hx⟩ := get_some hlt
          obtain ⟨bk, ok, Ax, cx, rfl, hSk, hbk, hxi, hxt, hx1, hx2, hEx, kc0, kc1, kc2⟩ := (H1.out.2.2.2.2.below HB.out).tree hx
          have hba2 : Below wo.heap.size wo (wo.alloc (.cells #[.int .i64 x.rule, .int .i64 x.term, .slice Ax x.kids.length cx] 41)) := (Below.refl _ _).alloc (Nat.le_refl _) _
          have HX := Lib.hid (And.intro (List.mem_of_getElem? hx) (And.intro hxt (And.intro hx1 (And.intro hx2 (And.intro (hEx.below hba2) hba2)))))
          have HTk := Lib.hid (backL_take tos ks m x hx)
          have HXb := Lib.hid (Blk'.new wo 41 #[.int .i64 x.rule, .int .i64 x.term, .slice Ax x.kids.length cx])
          have HLn := Lib.hid (show (backL tos (ks.take m)).length = m by rw [backL_len, List.length_take]; omega)
          have hm0 : (0 : Int) ≤ (m : Int) := by omega
          have hm1 : (m : Int) < (ks.length : Int) := by omega
          have hSo := (H1.out.2.2.2.1.below HB.out).below hba2
          have HSo := Lib.hid hSo
          have vo : (wo.alloc (.cells #[.int .i64 x.rule, .int .i64 x.term, .slice Ax x.kids.length cx] 41)).cell? ⟨VB, 0, none⟩ = some (.func (.func 79) #[] #[.pointer (some ⟨TB, 0, none⟩), .pointer (some ⟨VB, 0, none⟩)]) := hSo.fn.cell 0
          have hOo := HOo.out.below hba2 zO
          have HOa := Lib.hid hOo
          have HOwa := Lib.hid (HOw.out.below hba2 (Nat.le_refl _))
          obtain ⟨Av, cv, e1, hav1, hav2, _⟩ := HOw.out.form
          rw [HLn.out] at e1 hav1
          subst e1
          have kmm : m ≤ 1000 := by omega
          have HVb := Lib.hid HOw.out.block
          have ne1 : ¬ wo.heap.size = w1.heap.size := by omega
          have ne2 : ¬ VB = w1.heap.size := by omega
          have ne3 : ¬ w1.heap.size = wo.heap.size := by omega
          have ne4 : ¬ w1.heap.size = VB := by omega
          obtain ⟨w3, hw3⟩ : ∃ w3 : World, w3 = wo.alloc (.cells #[.int .i64 x.rule, .int .i64 x.term, .slice Ax x.kids.length cx] 41) := ⟨_, rfl⟩
          have HW3 := Lib.hid hw3
          rw [← hw3] at vo
          have x0 : w3.cell? ⟨wo.heap.size, 0, none⟩ = some (.int .i64 x.rule) := by rw [hw3]; exact HXb.out.cell 0
          have x1 : w3.cell? ⟨wo.heap.size, 1, none⟩ = some (.int .i64 x.term) := by rw [hw3]; exact HXb.out.cell 1
          have x2 : w3.cell? ⟨wo.heap.size, 2, none⟩ = some (.slice Ax x.kids.length cx) := by rw [hw3]; exact HXb.out.cell 2
          have a2 : w3.cell? ⟨w1.heap.size, 2, none⟩ = some (.slice Av m cv) := by rw [hw3]; exact hOo.cell 2
          have zX : wo.heap.size < w3.heap.size := by rw [hw3]; simp
          have zV3 : VB < w3.heap.size := by rw [hw3]; simp; omega
          have zO3 : w1.heap.size < w3.heap.size := by rw [hw3]; simp; omega
          have H3 : Hid (Els w3 S x.kids Ax ∧ BkS TB VB Sr tos (some ⟨ba, oa, none⟩) c w3 ∧ Blk' w3 w1.heap.size 41 #[.int .i64 v, .int .i64 0, .slice Av m cv] ∧ Own w3 (fun _ => False) (w1.heap.size + 1) 41 (.slice Av m cv) (backL tos (ks.take m)) ∧ Below w1.heap.size w1 w3) := by
            rw [hw3]; exact Lib.hid ⟨HX.out.2.2.2.2.1, HSo.out, HOa.out, HOwa.out, bthen HB.out hba2 HB.out.size⟩
          clear hx hxi hxt hEx hba2 hSo hOo hw3 HOo HOw HOa HOwa HSo HXb
          go_upto_region 9 with (fail)
          rw [← HW3.out]
          go_region_law
            (first
            | (go_simp
               go_at_call 79
               refine (IH.out x HX.out.1 Ax cx _ (HKs.out x HX.out.1) HX.out.2.1 HX.out.2.2.1 HX.out.2.2.2.1 (H3.out.1.below (Below.refl _ _).drew) (H3.out.2.1.below (Below.refl _ _).drew)).mono ?_
               rintro e w5 ⟨A5, d5, rfl, j1, j2, j3, j4, j5, hb5⟩
               have HJ := Lib.hid (And.intro j1 (And.intro j2 (And.intro j3 (And.intro j4 j5))))
               have H5 := Lib.hid (bundrew hb5)
               clear j1 j2 j3 j4 j5 hb5
               have n0 := (H5.out.cell (p := ⟨wo.heap.size, 0, none⟩) zX).trans x0
               have n1 := (H5.out.cell (p := ⟨wo.heap.size, 1, none⟩) zX).trans x1
               have n2 := (H5.out.cell (p := ⟨wo.heap.size, 2, none⟩) zX).trans x2
               have n3 := (H5.out.cell (p := ⟨VB, 0, none⟩) zV3).trans vo
               have n4 := (H5.out.cell (p := ⟨w1.heap.size, 2, none⟩) zO3).trans a2
               have HO5 := Lib.hid ((H3.out.2.2.2.1.below H5.out (Nat.le_refl _)).alloc (.cells #[.int .i64 (backT tos x).rule, .int .i64 (backT tos x).term, .slice A5 (backT tos x).kids.length d5] 41))
               have hB5 := (H3.out.2.2.1.below H5.out zO3).alloc (.cells #[.int .i64 (backT tos x).rule, .int .i64 (backT tos x).term, .slice A5 (backT tos x).kids.length d5] 41)
               have HB5 := Lib.hid hB5
               have hz5 : w3.heap.size ≤ w5.heap.size := H5.out.size
               have zO5 : w1.heap.size < w5.heap.size := by omega
               have HRd : Hid (Dat.rd (w5.alloc (.cells #[.int .i64 (backT tos x).rule, .int .i64 (backT tos x).term, .slice A5 (backT tos x).kids.length d5] 41)) (OwnT (fun _ => False) (w1.heap.size + 1) (.slice Av m cv) (w5.alloc (.cells #[.int .i64 (backT tos x).rule, .int .i64 (backT tos x).term, .slice A5 (backT tos x).kids.length d5] 41))) (backT tos x) [.int .i64 (backT tos x).rule, .int .i64 (backT tos x).term, .slice A5 (backT tos x).kids.length d5]) :=
                 Lib.hid (rd_tree.2 ⟨_, rfl, HJ.out.1, HJ.out.2.1, Vl.of_slice rfl HJ.out.2.2.1 HJ.out.2.2.2.1 ((HJ.out.2.2.2.2.below ((Below.refl _ _).alloc (Nat.le_refl _) _)).keep (fun _ _ _ => rfl) (fun b hb => ⟨.inr (by have := hb.1; simp at this; omega), fun e => by have := (H3.out.2.2.2.1.block b e).2; have := hb.1; simp at this; omega, by have := hb.2; simp; omega⟩))⟩)
               clear hB5)
            | (refine step_own1 _ (by rfl) _ _ elemTree (by rfl) (by rfl) HO5.out (backT tos x) [.int .i64 (backT tos x).rule, .int .i64 (backT tos x).term, .slice A5 (backT tos x).kids.length d5] (by rfl) (At.new _ _ _) HRd.out (by rw [HLn.out]; omega) (by rw [HLn.out]; omega) (by simp; omega) ?_
               intro v' w9 hown9 hg9 hat9
               obtain ⟨A9, k9, hv9, _⟩ := hown9.form
               rw [snoc_len, HLn.out] at hv9
               subst hv9
               have hc9 := HB5.out.grown hg9 (fun e => by have := (H3.out.2.2.2.1.block _ e.symm).1; omega)
               have hd9 := hc9.cell 2
               have p0 := grown_cell hg9 (alloc_cell n0 _) (fun e => by have := (HVb.out _ e).2; omega)
               have p1 := grown_cell hg9 (alloc_cell n1 _) (fun e => by have := (HVb.out _ e).2; omega)
               have p2 := grown_cell hg9 (alloc_cell n2 _) (fun e => by have := (HVb.out _ e).2; omega)
               have p3 := grown_cell hg9 (alloc_cell n3 _) (fun e => by have := (HVb.out _ e).1; omega)
               have he9 := hc9.frozen 2
               have H9 := Lib.hid (And.intro hown9 (And.intro hg9 hc9))
               clear hown9 hg9 hat9 hc9
               simp at hd9))
          all_goals
            go_wp2
            go_roundw
            case rel =>
              refine ⟨m + 1, _, hlt, by go_num, ?_, H9.out.2.2.set_ 2 _, ?_⟩
              · exact (((bthen H3.out.2.2.2.2 H5.out H3.out.2.2.2.2.size).alloc (by have := H3.out.2.2.2.2.size; omega) _).grown H9.out.2.1 (by have := H3.out.2.2.2.2.size; simp; omega) (fun k hk => by have := (H3.out.2.2.2.1.block k hk).1; omega)).setCell (p := ⟨w1.heap.size, 2, none⟩) (Nat.le_refl _) _
              · rw [HTk.out]
                exact H9.out.1.setCell (fun e => by have := (H9.out.1.block _ e).1; dsimp only at this; omega) (by simp) _
            case measure => simp [intOf]; omega
        · have hmm : m = ks.length := by omega
          have HTk := Lib.hid (show ks.take m = ks by rw [hmm]; exact List.take_length)
          obtain ⟨Av, cv, e1, hav1, hav2, _⟩ := HOw.out.form
          rw [HTk.out, backL_len] at e1
          subst e1
          have HBk := Lib.hid (bthen H1.out.1 HB.out H1.out.1.size)
          have hRo := H1.out.2.2.1.below HB.out zR
          have HRo := Lib.hid hRo
          have o0 : wo.cell? ⟨w1.heap.size, 0, none⟩ = some (.int .i64 v) := HOo.out.cell 0
          have o1 : wo.cell? ⟨w1.heap.size, 1, none⟩ = some (.int .i64 0) := HOo.out.cell 1
          have r0 := ((((hRo.set_ 0 (.int .i64 v)).set_ 1 (.int .i64 0)).set_ 2 (.slice Av ks.length cv))).cell 0
          have r1 := ((((hRo.set_ 0 (.int .i64 v)).set_ 1 (.int .i64 0)).set_ 2 (.slice Av ks.length cv))).cell 1
          have r2 := ((((hRo.set_ 0 (.int .i64 v)).set_ 1 (.int .i64 0)).set_ 2 (.slice Av ks.length cv))).cell 2
          have c0 := hRo.cell 0
          have c1 := hRo.cell 1
          have c2 := hRo.cell 2
          have f0 := hRo.frozen 0
          have f1 := hRo.frozen 1
          have f2 := hRo.frozen 2
          simp at r0 r1 r2 c0 c1 c2
          clear hRo
          go_wp2
          refine bodyPost_ret (v := .agg #[.int .i64 v, .int .i64 0, .slice Av ks.length cv]) (by simp [results, Try.results79, go_sem, r0, r1, r2]) rfl ⟨Av, cv, by rw [HE.out]; simp [Tree.rule, Tree.term, Tree.kids, backL_len], by rw [HE.out]; exact HV64.out, by rw [HE.out]; exact ⟨(by decide : (-9223372036854775808 : Int) ≤ 0), (by decide : (0 : Int) ≤ 9223372036854775807)⟩, by rw [HE.out]; show (backL tos ks).length ≤ cv; simpa [HTk.out] using hav1, hav2, ?_, ?_⟩
          · rw [HE.out]
            have hel := HOw.out.vl.els.2.2.2
            rw [HTk.out] at hel
            have hkx := (((Kept.refl (fun b => b = w.heap.size + 1) wo).setCell (p := ⟨w.heap.size + 1, 0, none⟩) (.inl rfl) (.int .i64 v)).setCell (p := ⟨w.heap.size + 1, 1, none⟩) (.inl rfl) (.int .i64 0)).setCell (p := ⟨w.heap.size + 1, 2, none⟩) (.inl rfl) (.slice Av ks.length cv)
            exact (hel.kept hkx (fun b hb e => by have := hb.1; simp at this; omega)).keep (fun _ _ _ => rfl) (fun b hb => ⟨by have := hb.1; simp at this; omega, by have := hb.2; simpa [World.setCell] using this⟩)
          · exact ((HBk.out.setCell (p := ⟨w.heap.size + 1, 0, none⟩) (by show w.heap.size ≤ w.heap.size + 1; omega) _).setCell (p := ⟨w.heap.size + 1, 1, none⟩) (by show w.heap.size ≤ w.heap.size + 1; omega) _).setCell (p := ⟨w.heap.size + 1, 2, none⟩) (by show w.heap.size ≤ w.heap.size + 1; omega) _
end Go.Proofs.Ytnphbbhnfkjlcaa
