/- Contract: parlref2.BackOf. -/
import Derived.Test.YtlbhaegdcpacpaaBack
import Derived.Test.YtlbhaegdcpacpaaNodes
import Derived.Deep.LoopGhost
namespace Go.Proofs.Ytlbhaegdcpacpaa
open Go.RowKit
set_option linter.unusedVariables false

theorem nodes_kid : ∀ (ks : List Tree) (k : Tree), k ∈ ks → nodesT k ≤ nodesL ks
  | [], k, h => by simp at h
  | x :: ks, k, h => by
    rw [nodesL]
    rcases List.mem_cons.1 h with e | e
    · subst e; omega
    · have := nodes_kid ks k e; omega
def RbL (tos : List Int) (A : Option Addr) (S Sr : Nat → Prop) (w : World) (t : Tree) (gk : Nat) (u : Value) (wr : World) : Prop :=
  ∃ (y : Tree) (B : Option Addr) (d : Nat), Below w.heap.size w wr ∧ Blk' wr w.heap.size 27 #[.int .i64 y.rule, .int .i64 y.term, .slice B y.kids.length d] ∧ Blk' wr (w.heap.size + 1) 27 #[.int .i64 0, .int .i64 0, .slice none 0 0] ∧ Els wr S y.kids B ∧ okB tos y ∧ backT tos y = backT tos t ∧ nodesT y ≤ gk ∧ nodesT y ≤ nodesT t ∧ I64 y.term ∧ y.kids.length ≤ d ∧ d ≤ 9223372036854775807 ∧ Els wr Sr tos A
def RbK (tos : List Int) (r : Int) (ks : List Tree) (w : World) (O : Nat) (i : Value) (wr : World) : Prop :=
  ∃ (m : Nat) (v : Value), m ≤ ks.length ∧ i = .int .i64 m ∧ Below w.heap.size w wr ∧ Blk' wr O 27 #[.int .i64 r, .int .i64 0, v] ∧ Own wr (fun _ => False) (O + 1) 27 v (backL tos (ks.take m))

set_option maxRecDepth 100000 in
set_option maxHeartbeats 4000000 in
theorem rback_any (S Sr : Nat → Prop) (tos : List Int) (A : Option Addr) (c : Nat) (hlc : tos.length ≤ 1000000) : ∀ (n : Nat) (t : Tree) (B : Option Addr) (d : Nat) (w : World), nodesT t ≤ n → okB tos t → I64 t.term → t.kids.length ≤ d → d ≤ 9223372036854775807 → Els w S t.kids B → Els w Sr tos A → (∀ b, S b ∨ Sr b → b < w.heap.size) →
    Calls Try.prog 17 #[.slice A tos.length c, .agg #[.int .i64 t.rule, .int .i64 t.term, .slice B t.kids.length d]] w (RetT (backT tos t) w) := by
  intro n
  induction n with
  | zero =>
    intro t B d w hn
    cases t with
    | mk r t ks => rw [nodesT] at hn; omega
  | succ n ih =>
    intro t B d w hn hok ht hld hd hB hA hbd
    have IH := Lib.hid ih
    obtain ⟨w1, hw1⟩ : ∃ w1 : World, w1 = (w.alloc (.cells #[.int .i64 t.rule, .int .i64 t.term, .slice B t.kids.length d] 27)).alloc (.cells #[.int .i64 0, .int .i64 0, .slice none 0 0] 27) := ⟨_, rfl⟩
    have hb1 : Below w.heap.size w w1 := by rw [hw1]; exact ((Below.refl _ _).alloc (Nat.le_refl _) _).alloc (by simp) _
    have hT1 : Blk' w1 w.heap.size 27 #[.int .i64 t.rule, .int .i64 t.term, .slice B t.kids.length d] := by rw [hw1]; exact (Blk'.new w _ _).alloc _
    have hR1 : Blk' w1 (w.heap.size + 1) 27 #[.int .i64 0, .int .i64 0, .slice none 0 0] := by rw [hw1]; exact Blk'.new' _ _ _ (by simp)
    have H1 := Lib.hid (And.intro hb1 (And.intro hT1 (And.intro hR1 (And.intro (hB.below hb1) (And.intro hok (And.intro ht (And.intro hld (And.intro hd (hA.below hb1)))))))))
    have HW1 := Lib.hid hw1
    have HBd := Lib.hid hbd
    have HN := Lib.hid hn
    have hlm : tos.length ≤ 9223372036854775807 := by omega
    clear ih hw1 hb1 hT1 hR1 hok ht hB hA hbd hn
    go_enter Try.func17, Try.ntmps17
    go_upto_region 1 with (fail)
    rw [← HW1.out]
    go_loopg [8] (nodesT t) (fun gk u wr => RbL tos A S Sr w t gk u wr)
    case atStart => exact ⟨t, B, d, H1.out.1, H1.out.2.1, H1.out.2.2.1, H1.out.2.2.2.1, H1.out.2.2.2.2.1, rfl, Nat.le_refl _, Nat.le_refl _, H1.out.2.2.2.2.2.1, H1.out.2.2.2.2.2.2.1, H1.out.2.2.2.2.2.2.2.1, H1.out.2.2.2.2.2.2.2.2⟩
    case round =>
      obtain ⟨w2, hw2⟩ : ∃ w2 : World, w2 = wr := ⟨_, rfl⟩
      subst hw2
      obtain ⟨y, By, dy, hb, hT, hR, hEy, hok, hbk, hgk, hnt, hty, hl, hdd, hEt⟩ := hrel
      obtain ⟨r, tm, ks⟩ := y
      dsimp only [Tree.rule, Tree.term, Tree.kids] at hT hEy hty hl
      have t0 : w2.cell? ⟨w.heap.size, 0, none⟩ = some (.int .i64 r) := hT.cell 0
      have t1 : w2.cell? ⟨w.heap.size, 1, none⟩ = some (.int .i64 tm) := hT.cell 1
      have t2 : w2.cell? ⟨w.heap.size, 2, none⟩ = some (.slice By ks.length dy) := hT.cell 2
      have zT : w.heap.size < w2.heap.size := hT.lt
      have zR : w.heap.size + 1 < w2.heap.size := hR.lt
      have H2 := Lib.hid (And.intro hb (And.intro hT (And.intro hR (And.intro hEy (And.intro hbk (And.intro hgk (And.intro hnt (And.intro hty hEt))))))))
      have ft0 := hT.frozen 0
      have ft1 := hT.frozen 1
      have ft2 := hT.frozen 2
      clear hb hT hR hEy hbk hgk hnt hty hEt H1 HW1
      unfold okB at hok
      rcases hok with ⟨rfl, rfl⟩ | ⟨hr0, rfl, hkl, v, hv, hvn, hks⟩
      · have HE := Lib.hid (show backT tos t = ⟨-1, tm, []⟩ by rw [← H2.out.2.2.2.2.1]; simp [backT])
        go_wp2_with fail
        go_loopw [38] (fun i wr => i = .int .i64 0 ∧ Below w2.heap.size w2 wr ∧ Blk' wr w2.heap.size 27 #[.int .i64 (-1), .int .i64 tm, .slice none 0 0]) (fun _ _ => 0)
        case atStart => exact ⟨rfl, (Below.refl _ _).alloc (Nat.le_refl _) _, Blk'.new w2 _ _⟩
        case round =>
          obtain ⟨wo, hwo⟩ : ∃ wo : World, wo = wr := ⟨_, rfl⟩
          subst hwo
          obtain ⟨rfl, hba, hO⟩ := hrel
          have o0 : wo.cell? ⟨w2.heap.size, 0, none⟩ = some (.int .i64 (-1)) := hO.cell 0
          have o1 : wo.cell? ⟨w2.heap.size, 1, none⟩ = some (.int .i64 tm) := hO.cell 1
          have o2 : wo.cell? ⟨w2.heap.size, 2, none⟩ = some (.slice none 0 0) := hO.cell 2
          have hR2 := H2.out.2.2.1.below hba zR
          have HB2 := Lib.hid (bthen H2.out.1 hba H2.out.1.size)
          have r0 := ((((hR2.set_ 0 (.int .i64 (-1))).set_ 1 (.int .i64 tm)).set_ 2 (.slice none 0 0))).cell 0
          have r1 := ((((hR2.set_ 0 (.int .i64 (-1))).set_ 1 (.int .i64 tm)).set_ 2 (.slice none 0 0))).cell 1
          have r2 := ((((hR2.set_ 0 (.int .i64 (-1))).set_ 1 (.int .i64 tm)).set_ 2 (.slice none 0 0))).cell 2
          have c0 := hR2.cell 0
          have c1 := hR2.cell 1
          have c2 := hR2.cell 2
          have f0 := hR2.frozen 0
          have f1 := hR2.frozen 1
          have f2 := hR2.frozen 2
          have HTm := Lib.hid H2.out.2.2.2.2.2.2.2.1
          clear hR2 hba hO t0 t1 t2
          simp at r0 r1 r2 c0 c1 c2
          go_wp2
          exact bodyPost_ret (v := .agg #[.int .i64 (-1), .int .i64 tm, .slice none 0 0]) (by simp [results, Try.results17, go_sem, r0, r1, r2]) rfl ⟨none, 0, by rw [HE.out]; rfl, by rw [HE.out]; exact ⟨(by decide : (-9223372036854775808 : Int) ≤ -1), (by decide : (-1 : Int) ≤ 9223372036854775807)⟩, by rw [HE.out]; exact HTm.out, by rw [HE.out]; exact Nat.le_refl _, by omega, by rw [HE.out]; exact fun h => absurd rfl h,
            ((HB2.out.setCell (p := ⟨w.heap.size + 1, 0, none⟩) (by show w.heap.size ≤ w.heap.size + 1; omega) _).setCell (p := ⟨w.heap.size + 1, 1, none⟩) (by show w.heap.size ≤ w.heap.size + 1; omega) _).setCell (p := ⟨w.heap.size + 1, 2, none⟩) (by show w.heap.size ≤ w.heap.size + 1; omega) _⟩
      · have hr1 : r.toNat < tos.length := (List.getElem?_eq_some_iff.1 hv).1
        have hr11 : r < (tos.length : Int) := by omega
        have hrn : ¬ r < 0 := by omega
        obtain ⟨ba, oa, eA, _, hba, hv64, hva⟩ := H2.out.2.2.2.2.2.2.2.2.int hv
        subst eA
        have HV64 := Lib.hid hv64
        have hgd : tos.getD r.toNat 0 = v := by rw [List.getD_eq_getElem?_getD, hv]; rfl
        by_cases hv0 : v < 0
        · have hne := hvn hv0
          obtain ⟨k, hk⟩ := get_some (show 0 < ks.length by cases ks with | nil => exact absurd rfl hne | cons a l => simp)
          have HE := Lib.hid (show backT tos k = backT tos t by
            rw [← H2.out.2.2.2.2.1, backT, if_neg hrn, hgd, if_pos hv0]
            cases ks with
            | nil => simp at hk
            | cons a l => simp at hk; subst hk; rfl)
          have hkm := List.mem_of_getElem? hk
          have hok1 : okB tos k := okBs_mem tos ks hks k hkm
          have hnk := nodes_kid ks k hkm
          have hny : nodesT k < nodesT ⟨r, 0, ks⟩ := by rw [nodesT]; omega
          obtain ⟨bk, ok, Ax, cx, eB, hSk, hbk, hxi, hxt, hx1, hx2, hEx, kc0, kc1, kc2⟩ := H2.out.2.2.2.1.tree hk
          subst eB
          have hk0 : 0 < ks.length := (List.getElem?_eq_some_iff.1 hk).1
          have HK := Lib.hid (And.intro hok1 (And.intro hxt (And.intro hx1 (And.intro hx2 (And.intro hEx (And.intro hny hSk))))))
          have k0 : w2.cell? ⟨bk, ok, none⟩ = some (.int .i64 k.rule) := by simpa using kc0
          have k1 : w2.cell? ⟨bk, ok + 1, none⟩ = some (.int .i64 k.term) := by simpa using kc1
          have k2 : w2.cell? ⟨bk, ok + 1 + 1, none⟩ = some (.slice Ax k.kids.length cx) := by simpa using kc2
          clear hv hvn hks hgd hne hok1 hxi hxt hEx kc0 kc1 kc2 hv64 hk hkm hnk hny
          go_wp2_with fail
          go_roundg (nodesT k)
          case measure => have h1 := HK.out.2.2.2.2.2.1; have h2 := H2.out.2.2.2.2.2.1; omega
          case rel =>
            have hX : Kept (fun b => b = w.heap.size) w2 (((w2.setCell ⟨w.heap.size, 0, none⟩ (.int .i64 k.rule)).setCell ⟨w.heap.size, 1, none⟩ (.int .i64 k.term)).setCell ⟨w.heap.size, 2, none⟩ (.slice Ax k.kids.length cx)) :=
              (((Kept.refl (fun b => b = w.heap.size) w2).setCell (p := ⟨w.heap.size, 0, none⟩) (.inl rfl) _).setCell (p := ⟨w.heap.size, 1, none⟩) (.inl rfl) _).setCell (p := ⟨w.heap.size, 2, none⟩) (.inl rfl) _
            refine ⟨k, Ax, cx, ?_, (((H2.out.2.1.set_ 0 (.int .i64 k.rule)).set_ 1 (.int .i64 k.term)).set_ 2 (.slice Ax k.kids.length cx)), H2.out.2.2.1.kept hX (by omega), HK.out.2.2.2.2.1.kept hX (fun b hb e => by have := HBd.out b (.inl hb); omega), HK.out.1, HE.out, Nat.le_refl _, ?_, HK.out.2.1, HK.out.2.2.1, HK.out.2.2.2.1, H2.out.2.2.2.2.2.2.2.2.kept hX (fun b hb e => by have := HBd.out b (.inr hb); omega)⟩
            · exact ((H2.out.1.setCell (p := ⟨w.heap.size, 0, none⟩) (Nat.le_refl _) _).setCell (p := ⟨w.heap.size, 1, none⟩) (Nat.le_refl _) _).setCell (p := ⟨w.heap.size, 2, none⟩) (Nat.le_refl _) _
            · have h1 := HK.out.2.2.2.2.2.1; have h2 := H2.out.2.2.2.2.2.2.1; omega
        · have HE := Lib.hid (show backT tos t = ⟨v, 0, backL tos ks⟩ by rw [← H2.out.2.2.2.2.1, backT, if_neg hrn, hgd, if_neg hv0])
          have HKs := Lib.hid (okBs_mem tos ks hks)
          have HNx : Hid (∀ x ∈ ks, nodesT x ≤ n) := Lib.hid (fun x hx => by
            have h1 := nodes_kid ks x hx
            have h2 := H2.out.2.2.2.2.2.2.1
            have h3 := HN.out
            rw [nodesT] at h2; omega)
          have hO : Below w2.heap.size w2 (w2.alloc (.cells #[.int .i64 v, .int .i64 0, .slice none 0 0] 27)) := (Below.refl _ _).alloc (Nat.le_refl _) _
          have HO := Lib.hid (And.intro hO (Blk'.new w2 27 #[.int .i64 v, .int .i64 0, .slice none 0 0]))
          clear hv hvn hks hgd hv64 hO
          go_wp2_with fail
          go_loopw [38] (fun i wr => RbK tos v ks w2 w2.heap.size i wr) (fun i _ => ks.length - (intOf i).toNat)
          case atStart => exact ⟨0, _, Nat.zero_le _, rfl, HO.out.1, HO.out.2, Own.nil _ _ _ _⟩
          case round =>
            obtain ⟨wo, hwo⟩ : ∃ wo : World, wo = wr := ⟨_, rfl⟩
            subst hwo
            obtain ⟨m, av, hm, rfl, hb, hO, hown⟩ := hrel
            have HB := Lib.hid hb
            have HOo := Lib.hid hO
            have HOw := Lib.hid hown
            have zO : w2.heap.size < wo.heap.size := hO.lt
            have o2 : wo.cell? ⟨w2.heap.size, 2, none⟩ = some av := hO.cell 2
            have of2 := hO.frozen 2
            have zRo : w.heap.size + 1 < wo.heap.size := by omega
            clear hb hO hown t0 t1 t2 hva
            by_cases hlt : m < ks.length
            · obtain ⟨x, hx⟩ := get_some hlt
              obtain ⟨bk, ok, Ax, cx, eBy, hSk, hbk, hxi, hxt, hx1, hx2, hEx, kc0, kc1, kc2⟩ := (H2.out.2.2.2.1.below HB.out).tree hx
              subst eBy
              have hba2 : Below wo.heap.size wo (wo.alloc (.cells #[.int .i64 x.rule, .int .i64 x.term, .slice Ax x.kids.length cx] 27)) := (Below.refl _ _).alloc (Nat.le_refl _) _
              have HX := Lib.hid (And.intro (List.mem_of_getElem? hx) (And.intro hxt (And.intro hx1 (And.intro hx2 (And.intro (hEx.below hba2) hba2)))))
              have HTk := Lib.hid (backL_take tos ks m x hx)
              have HXb := Lib.hid (Blk'.new wo 27 #[.int .i64 x.rule, .int .i64 x.term, .slice Ax x.kids.length cx])
              have HLn := Lib.hid (show (backL tos (ks.take m)).length = m by rw [backL_len, List.length_take]; omega)
              have hm0 : (0 : Int) ≤ (m : Int) := by omega
              have hm1 : (m : Int) < (ks.length : Int) := by omega
              have HSo := Lib.hid ((H2.out.2.2.2.2.2.2.2.2.below HB.out).below hba2)
              have hOo := HOo.out.below hba2 zO
              have HOa := Lib.hid hOo
              have HOwa := Lib.hid (HOw.out.below hba2 (Nat.le_refl _))
              obtain ⟨Av, cv, e1, hav1, hav2, _⟩ := HOw.out.form
              rw [HLn.out] at e1 hav1
              subst e1
              have kmm : m ≤ 1000 := by omega
              have HVb := Lib.hid HOw.out.block
              have ne1 : ¬ wo.heap.size = w2.heap.size := by omega
              have ne3 : ¬ w2.heap.size = wo.heap.size := by omega
              obtain ⟨w3, hw3⟩ : ∃ w3 : World, w3 = wo.alloc (.cells #[.int .i64 x.rule, .int .i64 x.term, .slice Ax x.kids.length cx] 27) := ⟨_, rfl⟩
              have HW3 := Lib.hid hw3
              have x0 : w3.cell? ⟨wo.heap.size, 0, none⟩ = some (.int .i64 x.rule) := by rw [hw3]; exact HXb.out.cell 0
              have x1 : w3.cell? ⟨wo.heap.size, 1, none⟩ = some (.int .i64 x.term) := by rw [hw3]; exact HXb.out.cell 1
              have x2 : w3.cell? ⟨wo.heap.size, 2, none⟩ = some (.slice Ax x.kids.length cx) := by rw [hw3]; exact HXb.out.cell 2
              have a2 : w3.cell? ⟨w2.heap.size, 2, none⟩ = some (.slice Av m cv) := by rw [hw3]; exact hOo.cell 2
              have zX : wo.heap.size < w3.heap.size := by rw [hw3]; simp
              have zO3 : w2.heap.size < w3.heap.size := by rw [hw3]; simp; omega
              have H3 : Hid (Els w3 S x.kids Ax ∧ Els w3 Sr tos (some ⟨ba, oa, none⟩) ∧ Blk' w3 w2.heap.size 27 #[.int .i64 v, .int .i64 0, .slice Av m cv] ∧ Own w3 (fun _ => False) (w2.heap.size + 1) 27 (.slice Av m cv) (backL tos (ks.take m)) ∧ Below w2.heap.size w2 w3) := by
                rw [hw3]; exact Lib.hid ⟨HX.out.2.2.2.2.1, HSo.out, HOa.out, HOwa.out, bthen HB.out hba2 HB.out.size⟩
              clear hx hxi hxt hEx hba2 hOo hw3 HOo HOw HOa HOwa HSo HXb
              have HB3 : Hid (∀ b, S b ∨ Sr b → b < w3.drew.heap.size) := Lib.hid (fun b hb => by have h1 := HBd.out b hb; have h2 := H2.out.1.size; have h3 := H3.out.2.2.2.2.size; show b < w3.heap.size; omega)
              go_upto_region 9 with (fail)
              rw [← HW3.out]
              go_region_law
                (first
                | (go_simp
                   go_at_call 17
                   refine (IH.out x Ax cx _ (HNx.out x HX.out.1) (HKs.out x HX.out.1) HX.out.2.1 HX.out.2.2.1 HX.out.2.2.2.1 (H3.out.1.below (Below.refl _ _).drew) (H3.out.2.1.below (Below.refl _ _).drew) HB3.out).mono ?_
                   rintro e w5 ⟨A5, d5, rfl, j1, j2, j3, j4, j5, hb5⟩
                   have HJ := Lib.hid (And.intro j1 (And.intro j2 (And.intro j3 (And.intro j4 j5))))
                   have H5 := Lib.hid (bundrew hb5)
                   clear j1 j2 j3 j4 j5 hb5
                   have n0 := (H5.out.cell (p := ⟨wo.heap.size, 0, none⟩) zX).trans x0
                   have n1 := (H5.out.cell (p := ⟨wo.heap.size, 1, none⟩) zX).trans x1
                   have n2 := (H5.out.cell (p := ⟨wo.heap.size, 2, none⟩) zX).trans x2
                   have n4 := (H5.out.cell (p := ⟨w2.heap.size, 2, none⟩) zO3).trans a2
                   have HO5 := Lib.hid ((H3.out.2.2.2.1.below H5.out (Nat.le_refl _)).alloc (.cells #[.int .i64 (backT tos x).rule, .int .i64 (backT tos x).term, .slice A5 (backT tos x).kids.length d5] 27))
                   have hB5 := (H3.out.2.2.1.below H5.out zO3).alloc (.cells #[.int .i64 (backT tos x).rule, .int .i64 (backT tos x).term, .slice A5 (backT tos x).kids.length d5] 27)
                   have HB5 := Lib.hid hB5
                   have hz5 : w3.heap.size ≤ w5.heap.size := H5.out.size
                   have zO5 : w2.heap.size < w5.heap.size := by omega
                   have HRd : Hid (Dat.rd (w5.alloc (.cells #[.int .i64 (backT tos x).rule, .int .i64 (backT tos x).term, .slice A5 (backT tos x).kids.length d5] 27)) (OwnT (fun _ => False) (w2.heap.size + 1) (.slice Av m cv) (w5.alloc (.cells #[.int .i64 (backT tos x).rule, .int .i64 (backT tos x).term, .slice A5 (backT tos x).kids.length d5] 27))) (backT tos x) [.int .i64 (backT tos x).rule, .int .i64 (backT tos x).term, .slice A5 (backT tos x).kids.length d5]) :=
                     Lib.hid (rd_tree.2 ⟨_, rfl, HJ.out.1, HJ.out.2.1, Vl.of_slice rfl HJ.out.2.2.1 HJ.out.2.2.2.1 ((HJ.out.2.2.2.2.below ((Below.refl _ _).alloc (Nat.le_refl _) _)).keep (fun _ _ _ => rfl) (fun b hb => ⟨.inr (by have := hb.1; simp at this; omega), fun e => by have := (H3.out.2.2.2.1.block b e).2; have := hb.1; simp at this; omega, by have := hb.2; simp; omega⟩))⟩)
                   clear hB5)
                | (refine step_own1 _ (by rfl) _ _ elemTree (by rfl) (by rfl) HO5.out (backT tos x) [.int .i64 (backT tos x).rule, .int .i64 (backT tos x).term, .slice A5 (backT tos x).kids.length d5] (by rfl) (At.new _ _ _) HRd.out (by rw [HLn.out]; omega) (by rw [HLn.out]; omega) (by simp; omega) ?_
                   intro v' w9 hown9 hg9 hat9
                   obtain ⟨A9, k9, hv9, _⟩ := hown9.form
                   rw [snoc_len, HLn.out] at hv9
                   subst hv9
                   have hc9 := HB5.out.grown hg9 (fun e => by have := (H3.out.2.2.2.1.block _ e.symm).1; omega)
                   have hd9 := hc9.cell 2
                   have p0 := grown_cell hg9 (alloc_cell n0 _) (fun e => by have := (HVb.out _ e).2; omega)
                   have p1 := grown_cell hg9 (alloc_cell n1 _) (fun e => by have := (HVb.out _ e).2; omega)
                   have p2 := grown_cell hg9 (alloc_cell n2 _) (fun e => by have := (HVb.out _ e).2; omega)
                   have he9 := hc9.frozen 2
                   have H9 := Lib.hid (And.intro hown9 (And.intro hg9 hc9))
                   clear hown9 hg9 hat9 hc9
                   simp at hd9))
              all_goals
                go_wp2
                go_roundw
                case rel =>
                  refine ⟨m + 1, _, hlt, by go_num, ?_, H9.out.2.2.set_ 2 _, ?_⟩
                  · exact (((bthen H3.out.2.2.2.2 H5.out H3.out.2.2.2.2.size).alloc (by have := H3.out.2.2.2.2.size; omega) _).grown H9.out.2.1 (by have := H3.out.2.2.2.2.size; simp; omega) (fun k hk => by have := (H3.out.2.2.2.1.block k hk).1; omega)).setCell (p := ⟨w2.heap.size, 2, none⟩) (Nat.le_refl _) _
                  · rw [HTk.out]
                    exact H9.out.1.setCell (fun e => by have := (H9.out.1.block _ e).1; dsimp only at this; omega) (by simp) _
                case measure => simp [intOf]; omega
            · have hmm : m = ks.length := by omega
              have HTk := Lib.hid (show ks.take m = ks by rw [hmm]; exact List.take_length)
              obtain ⟨Av, cv, e1, hav1, hav2, _⟩ := HOw.out.form
              rw [HTk.out, backL_len] at e1
              subst e1
              have HBk := Lib.hid (bthen H2.out.1 HB.out H2.out.1.size)
              have hRo := H2.out.2.2.1.below HB.out zR
              have HRo := Lib.hid hRo
              have o0 : wo.cell? ⟨w2.heap.size, 0, none⟩ = some (.int .i64 v) := HOo.out.cell 0
              have o1 : wo.cell? ⟨w2.heap.size, 1, none⟩ = some (.int .i64 0) := HOo.out.cell 1
              have r0 := ((((hRo.set_ 0 (.int .i64 v)).set_ 1 (.int .i64 0)).set_ 2 (.slice Av ks.length cv))).cell 0
              have r1 := ((((hRo.set_ 0 (.int .i64 v)).set_ 1 (.int .i64 0)).set_ 2 (.slice Av ks.length cv))).cell 1
              have r2 := ((((hRo.set_ 0 (.int .i64 v)).set_ 1 (.int .i64 0)).set_ 2 (.slice Av ks.length cv))).cell 2
              have c0 := hRo.cell 0
              have c1 := hRo.cell 1
              have c2 := hRo.cell 2
              have f0 := hRo.frozen 0
              have f1 := hRo.frozen 1
              have f2 := hRo.frozen 2
              simp at r0 r1 r2 c0 c1 c2
              clear hRo
              go_wp2
              refine bodyPost_ret (v := .agg #[.int .i64 v, .int .i64 0, .slice Av ks.length cv]) (by simp [results, Try.results17, go_sem, r0, r1, r2]) rfl ⟨Av, cv, by rw [HE.out]; simp [Tree.rule, Tree.term, Tree.kids, backL_len], by rw [HE.out]; exact HV64.out, by rw [HE.out]; exact ⟨(by decide : (-9223372036854775808 : Int) ≤ 0), (by decide : (0 : Int) ≤ 9223372036854775807)⟩, by rw [HE.out]; show (backL tos ks).length ≤ cv; simpa [HTk.out] using hav1, hav2, ?_, ?_⟩
              · rw [HE.out]
                have hel := HOw.out.vl.els.2.2.2
                rw [HTk.out] at hel
                have hkx := (((Kept.refl (fun b => b = w.heap.size + 1) wo).setCell (p := ⟨w.heap.size + 1, 0, none⟩) (.inl rfl) (.int .i64 v)).setCell (p := ⟨w.heap.size + 1, 1, none⟩) (.inl rfl) (.int .i64 0)).setCell (p := ⟨w.heap.size + 1, 2, none⟩) (.inl rfl) (.slice Av ks.length cv)
                exact (hel.kept hkx (fun b hb e => by have := hb.1; simp at this; omega)).keep (fun _ _ _ => rfl) (fun b hb => ⟨by have := hb.1; simp at this; omega, by have := hb.2; simpa [World.setCell] using this⟩)
              · exact ((HBk.out.setCell (p := ⟨w.heap.size + 1, 0, none⟩) (by show w.heap.size ≤ w.heap.size + 1; omega) _).setCell (p := ⟨w.heap.size + 1, 1, none⟩) (by show w.heap.size ≤ w.heap.size + 1; omega) _).setCell (p := ⟨w.heap.size + 1, 2, none⟩) (by show w.heap.size ≤ w.heap.size + 1; omega) _
end Go.Proofs.Ytlbhaegdcpacpaa
