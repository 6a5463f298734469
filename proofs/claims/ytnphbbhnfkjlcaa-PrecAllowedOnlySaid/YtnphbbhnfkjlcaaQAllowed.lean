/- Contract: the closure of prec.Allowed. -/
import Derived.Test.YtnphbbhnfkjlcaaQp1
import Derived.Test.YtnphbbhnfkjlcaaQYield
import Derived.Deep.QuietTactic
import Derived.BigQuiet
import Derived.Deep.DeepCutAuto
namespace Go.Proofs.Ytnphbbhnfkjlcaa
open Go.RowKit
set_option linter.unusedVariables false

/-- The world of prec.Allowed's closure. -/
structure AwS (VB LB TB : Nat) (Sl St : Nat → Prop) (t : Table) (A L : Option Addr) (c lc : Nat) (w : World) : Prop where
  fn : Blk' w VB 142 #[.func (.func 71) #[] #[.pointer (some ⟨VB, 0, none⟩), .pointer (some ⟨LB, 0, none⟩), .pointer (some ⟨TB, 0, none⟩)]]
  lev : Blk' w LB 38 #[.slice L (flatLev t).length lc]
  els : Els w Sl (flatLev t) L
  tab : Blk' w TB 37 #[.int .i64 t.terms, .int .i64 t.atom, .int .i64 t.opn, .int .i64 t.cls, .slice A t.levels.length c]
  levels : Els w St t.levels A
theorem AwS.below {VB LB TB : Nat} {Sl St : Nat → Prop} {t : Table} {A L : Option Addr} {c lc : Nat} {w w' : World} (h : AwS VB LB TB Sl St t A L c lc w) (hb : Below w.heap.size w w') : AwS VB LB TB Sl St t A L c lc w' :=
  ⟨h.fn.below hb h.fn.lt, h.lev.below hb h.lev.lt, h.els.below hb, h.tab.below hb h.tab.lt, h.levels.below hb⟩
theorem allowEs_take (t : Table) : ∀ (ks : List Tree) (m : Nat) (k : Tree), ks[m]? = some k → allowEs t (ks.take (m + 1)) = (allowEs t (ks.take m) && allowE t k)
  | [], m, k, h => by simp at h
  | x :: ks, 0, k, h => by simp at h; subst h; simp [allowEs]
  | x :: ks, m + 1, k, h => by
    simp only [List.take_succ_cons, allowEs]
    rw [allowEs_take t ks m k (by simpa using h), Bool.and_assoc]
theorem allowEs_mem (t : Table) : ∀ (ks : List Tree) (k : Tree), k ∈ ks → allowE t k = false → allowEs t ks = false
  | [], k, h, _ => by simp at h
  | x :: ks, k, h, hf => by
    unfold allowEs
    rcases List.mem_cons.1 h with e | e
    · rw [← e, hf]; rfl
    · rw [allowEs_mem t ks k e hf, Bool.and_false]
theorem vts_mem {g : Gram} : ∀ (ks : List Tree) (ss : List Sym), vts g ks ss → ∀ k ∈ ks, ∃ s, vt g k s
  | [], _, _, k, hk => by simp at hk
  | x :: ks, s :: ss, h, k, hk => by
    unfold vts at h
    rcases List.mem_cons.1 hk with e | e
    · exact ⟨s, e ▸ h.1⟩
    · exact vts_mem ks ss h.2 k e
  | _ :: _, [], h, _, _ => by simp [vts] at h
def AwL (t : Table) (ks : List Tree) (w : World) (i : Value) (wr : World) : Prop :=
  ∃ m : Nat, m ≤ ks.length ∧ i = .int .i64 m ∧ allowEs t (ks.take m) = true ∧ Below w.heap.size w wr

set_option maxRecDepth 100000 in
set_option maxHeartbeats 4000000 in
theorem allow1_any (VB LB TB : Nat) (Sl St S : Nat → Prop) (t : Table) (A L : Option Addr) (c lc : Nat) (hv : Valid t) (g : Gram) (hg : g.rules = flatRules t) (hll : (flatLev t).length ≤ 1000000) : ∀ (x : Tree) (B : Option Addr) (d : Nat) (w : World), (∃ s, vt g x s) → I64 x.rule → I64 x.term → x.kids.length ≤ d → d ≤ 9223372036854775807 → Els w S x.kids B → AwS VB LB TB Sl St t A L c lc w →
    Calls Try.prog 71 #[.agg #[.int .i64 x.rule, .int .i64 x.term, .slice B x.kids.length d], .pointer (some ⟨VB, 0, none⟩), .pointer (some ⟨LB, 0, none⟩), .pointer (some ⟨TB, 0, none⟩)] w
      fun e w' => e = .returned (.bool (allowE t x)) ∧ Below w.heap.size w w' := by
  refine Tree.ind ?_
  intro r x ks ih B d w hvt hr hx hld hd hB hst
  have IH := Lib.hid ih
  have HV := Lib.hid hv
  have HG := Lib.hid hg
  dsimp only [Tree.rule, Tree.term, Tree.kids] at *
  obtain ⟨w1, hw1⟩ : ∃ w1 : World, w1 = w.alloc (.cells #[.int .i64 r, .int .i64 x, .slice B ks.length d] 41) := ⟨_, rfl⟩
  have hb1 : Below w.heap.size w w1 := by rw [hw1]; exact (Below.refl _ _).alloc (Nat.le_refl _) _
  have hT1 : Blk' w1 w.heap.size 41 #[.int .i64 r, .int .i64 x, .slice B ks.length d] := by rw [hw1]; exact Blk'.new w _ _
  have hS1 := hst.below hb1
  have hB1 := hB.below hb1
  have t0 : w1.cell? ⟨w.heap.size, 0, none⟩ = some (.int .i64 r) := hT1.cell 0
  have t2 : w1.cell? ⟨w.heap.size, 2, none⟩ = some (.slice B ks.length d) := hT1.cell 2
  have HW1 := Lib.hid hw1
  have H1 := Lib.hid (And.intro hb1 (And.intro hT1 (And.intro hS1 hB1)))
  clear ih hv hg hw1 hb1 hT1 hS1 hB1 hst hB
  by_cases h0 : r < 0
  · have HE := Lib.hid (show allowE t ⟨r, x, ks⟩ = true by simp [allowE, h0])
    clear hvt
    go_enter Try.func71, Try.ntmps71
    go_upto_region 1 with (fail)
    rw [← HW1.out]
    go_wp2
    go_ret
    exact ⟨ret_bool HE.out.symm, H1.out.1⟩
  · obtain ⟨s, hvt⟩ := hvt
    have hst : s.term = false := by
      cases hst : s.term
      · rfl
      · unfold vt at hvt
        rw [if_pos hst] at hvt
        omega
    have HVT := Lib.hid hvt
    obtain ⟨hr0, rfl, v, hl, hkf⟩ := flat_node HG.out hvt hst
    have HKm := Lib.hid (show ∀ k ∈ ks, ∃ s, vt g k s by
      unfold vt at hvt
      rw [if_neg (by simp [hst])] at hvt
      obtain ⟨_, _, q, _, _, hk⟩ := hvt
      exact vts_mem ks q.right hk)
    have HE := Lib.hid (show allowE t ⟨r, 0, ks⟩ = (allowEs t ks && nodeE t r ks) by rw [allowE, if_neg h0])
    have HKF := Lib.hid hkf
    have HL := Lib.hid hl
    have hkl : ks.length ≤ 3 := by cases hkf <;> (rename_i e; subst e; simp)
    clear hvt hl hkf
    go_enter Try.func71, Try.ntmps71
    go_upto_region 1 with (fail)
    rw [← HW1.out]
    go_wp2_with fail
    go_loopw [19] (fun i wr => AwL t ks w1 i wr) (fun i _ => ks.length - (intOf i).toNat)
    case atStart => exact ⟨0, Nat.zero_le _, rfl, by simp [allowEs], Below.refl _ _⟩
    case round =>
      obtain ⟨wo, hwo⟩ : ∃ wo : World, wo = wr := ⟨_, rfl⟩
      subst hwo
      obtain ⟨m, hm, rfl, hal, hb⟩ := hrel
      have HAl := Lib.hid hal
      have HB := Lib.hid hb
      have hTo := H1.out.2.1.below hb H1.out.2.1.lt
      have hSo := H1.out.2.2.1.below hb
      have HTo := Lib.hid hTo
      have HSo := Lib.hid hSo
      have zo : w1.heap.size ≤ wo.heap.size := hb.size
      clear hal hb t0 t2
      by_cases hlt : m < ks.length
      · obtain ⟨k, hk⟩ := get_some hlt
        obtain ⟨bk, ok, Ax, cx, rfl, hSk, hbk, hxi, hxt, hx1, hx2, hEx, kc0, kc1, kc2⟩ := (H1.out.2.2.2.below HB.out).tree hk
        have hba2 : Below wo.heap.size wo (wo.alloc (.cells #[.int .i64 k.rule, .int .i64 k.term, .slice Ax k.kids.length cx] 41)) := (Below.refl _ _).alloc (Nat.le_refl _) _
        have HX := Lib.hid (And.intro (List.mem_of_getElem? hk) (And.intro hxi (And.intro hxt (And.intro (hEx.below hba2) hba2))))
        have HTk := Lib.hid (allowEs_take t ks m k hk)
        have hm0 : (0 : Int) ≤ (m : Int) := by omega
        have hm1 : (m : Int) < (ks.length : Int) := by omega
        have hS2 := hSo.below hba2
        have HS2 := Lib.hid hS2
        have v0 : wo.cell? ⟨VB, 0, none⟩ = some (.func (.func 71) #[] #[.pointer (some ⟨VB, 0, none⟩), .pointer (some ⟨LB, 0, none⟩), .pointer (some ⟨TB, 0, none⟩)]) := hSo.fn.cell 0
        have zV : VB < wo.heap.size := hSo.fn.lt
        clear hk hxi hxt hEx hba2 hTo hSo hS2
        go_wp2_with fail
        refine (IH.out k HX.out.1 Ax cx _ (HKm.out k HX.out.1) HX.out.2.1 HX.out.2.2.1 hx1 hx2 HX.out.2.2.2.1 HS2.out).mono ?_
        rintro e w5 ⟨rfl, hb5⟩
        have HB5 := Lib.hid (bthen HB.out (bthen HX.out.2.2.2.2 hb5 (by simp)) HB.out.size)
        clear hb5
        cases hak : allowE t k
        · have HE2 := Lib.hid (show allowE t ⟨r, 0, ks⟩ = false by rw [HE.out, allowEs_mem t ks k HX.out.1 hak]; rfl)
          clear hak
          go_wp2
          go_ret
          exact ⟨ret_bool HE2.out.symm, bthen H1.out.1 HB5.out H1.out.1.size⟩
        · have HE2 := Lib.hid (show allowEs t (ks.take (m + 1)) = true by rw [HTk.out, HAl.out, hak]; rfl)
          clear hak
          go_wp2
          go_roundw
          case rel => exact ⟨m + 1, hlt, by go_num, HE2.out, HB5.out⟩
          case measure => simp [intOf]; omega
      · have HE2 := Lib.hid (show allowE t ⟨r, 0, ks⟩ = nodeE t r ks by
          have h := HAl.out
          rw [List.take_of_length_le (by omega)] at h
          rw [HE.out, h]; rfl)
        have t0 : wo.cell? ⟨w.heap.size, 0, none⟩ = some (.int .i64 r) := hTo.cell 0
        have t2 : wo.cell? ⟨w.heap.size, 2, none⟩ = some (.slice B ks.length d) := hTo.cell 2
        have l0 : wo.cell? ⟨LB, 0, none⟩ = some (.slice L (flatLev t).length lc) := hSo.lev.cell 0
        have a4 : wo.cell? ⟨TB, 4, none⟩ = some (.slice A t.levels.length c) := hSo.tab.cell 4
        obtain ⟨bl, ol, eL, _, hbl, hv64, hvc⟩ := hSo.els.int HL.out
        have HEL := Lib.hid eL
        rw [eL] at l0
        have hr1 : r < ((flatLev t).length : Int) := by have := (List.getElem?_eq_some_iff.1 HL.out).1; omega
        have zl : LB < wo.heap.size := hSo.lev.lt
        have za : TB < wo.heap.size := hSo.tab.lt
        have zt : w.heap.size < wo.heap.size := hTo.lt
        have hlvm : t.levels.length ≤ 6 := HV.out.levels
        have HBo := Lib.hid (bthen H1.out.1 HB.out H1.out.1.size)
        have HLv := Lib.hid (levE_of HL.out rfl)
        have hlm : (flatLev t).length ≤ 9223372036854775807 := by omega
        clear hTo hSo eL
        by_cases hvn : v = (t.levels.length : Int)
        · have HN := Lib.hid (show nodeE t r ks = true by unfold nodeE; rw [HLv.out, hvn]; simp)
          have q1 : (v == (t.levels.length : Int)) = true := by simp [hvn]
          clear hvn
          go_wp2
          go_ret
          exact ⟨ret_bool (by rw [HE2.out, HN.out]), HBo.out⟩
        · have q1 : (v == (t.levels.length : Int)) = false := by simpa using hvn
          have HVN := Lib.hid hvn
          clear hvn
          cases HKF.out with
          | atom h _ _ => exact absurd h HVN.out
          | brk h _ _ _ _ => exact absurd h HVN.out
          | pre k l op h hlk ho h3 y hy e =>
            obtain ⟨yr, yx, yk⟩ := y
            obtain ⟨hy0, rfl, vy, hvy, _⟩ := flat_node HG.out hy rfl
            have HN := Lib.hid (show nodeE t r ks = decide (v ≤ vy) by
              unfold nodeE
              rw [HLv.out, h, Int.toNat_natCast, hlk]
              dsimp only
              rw [if_pos (.inr h3), e, show (lastT [⟨-1, op, []⟩, (⟨yr, 0, yk⟩ : Tree)]) = ⟨yr, 0, yk⟩ from rfl, show (Tree.mk yr 0 yk).rule = yr from rfl, levE_of hvy rfl]
              simp [h3])
            obtain ⟨b5, o5, A5, c5, eA, _, hb5, hk64, _, _, _, m0, m1⟩ := HSo.out.levels.level hlk
            obtain ⟨b6, o6, eL6, _, hb6, hvy64, hvyc⟩ := HSo.out.els.int hvy
            obtain ⟨bk, ok, Ax, cx, eB, hSk, hbk, hxi, hxt, hx1, hx2, hEx, kc0, kc1, kc2⟩ := (H1.out.2.2.2.below HB.out).tree (show ks[1]? = some ⟨yr, 0, yk⟩ by rw [e]; rfl)
            have k0 : wo.cell? ⟨bk, ok + 3, none⟩ = some (.int .i64 yr) := kc0
            have k1 : wo.cell? ⟨bk, ok + 3 + 1, none⟩ = some (.int .i64 0) := kc1
            have k2 : wo.cell? ⟨bk, ok + 3 + 1 + 1, none⟩ = some (.slice Ax yk.length cx) := kc2
            have hk2 : ks.length = 2 := by rw [e]; rfl
            rw [eB, hk2] at t2
            rw [HEL.out] at eL6
            injection eL6 with eL6
            injection eL6 with e1 e2 _
            subst e1; subst e2
            subst eA
            rw [h3] at m0
            have hkl2 : k < t.levels.length := (List.getElem?_eq_some_iff.1 hlk).1
            have hkl3 : (k : Int) < (t.levels.length : Int) := by omega
            have hk0 : (0 : Int) ≤ (k : Int) := by omega
            have hyl : yr < ((flatLev t).length : Int) := by have := (List.getElem?_eq_some_iff.1 hvy).1; omega
            have hlvl9 : t.levels.length ≤ 9223372036854775807 := by omega
            subst h
            clear hy hvy hlk ho h3 e hk64 m1 kc0 kc1 kc2 hEx hk2 hxt hxi hvy64 q1
            have q1 : ((k : Int) == (t.levels.length : Int)) = false := by simp; omega
            go_wp2_with fail
            have HB9 := Lib.hid HBo.out
            by_cases hge : (k : Int) ≤ vy
            · have d1 : decide ((k : Int) ≤ vy) = true := decide_eq_true hge
              have HD := Lib.hid d1
              go_quiet (fail)
              clear d1
              go_wp2
              go_ret
              exact ⟨ret_bool (by rw [HE2.out, HN.out, HD.out]), bdrewN (HBo.out.alloc HBo.out.size _)⟩
            · have d1 : decide ((k : Int) ≤ vy) = false := decide_eq_false hge
              have HD := Lib.hid d1
              go_quiet (fail)
              clear d1
              go_wp2
              go_ret
              exact ⟨ret_bool (by rw [HE2.out, HN.out, HD.out]), bdrewN (HBo.out.alloc HBo.out.size _)⟩
          | inf k l op h hlk ho h3 a y ha hy e =>
            obtain ⟨yr, yx, yk⟩ := y
            obtain ⟨ar, ax, ak⟩ := a
            obtain ⟨hy0, rfl, vy, hvy, _⟩ := flat_node HG.out hy rfl
            obtain ⟨ha0, rfl, va, hva, _⟩ := flat_node HG.out ha rfl
            have HN := Lib.hid (show nodeE t r ks = (decide ((if l.kind = 2 then v else v + 1) ≤ vy) && decide ((if l.kind = 1 then v else v + 1) ≤ va)) by
              unfold nodeE
              rw [HLv.out, h, Int.toNat_natCast, hlk]
              dsimp only
              rw [e, show (lastT [(⟨ar, 0, ak⟩ : Tree), ⟨-1, op, []⟩, ⟨yr, 0, yk⟩]) = ⟨yr, 0, yk⟩ from rfl, show (headT [(⟨ar, 0, ak⟩ : Tree), ⟨-1, op, []⟩, ⟨yr, 0, yk⟩]) = ⟨ar, 0, ak⟩ from rfl, show (Tree.mk yr 0 yk).rule = yr from rfl, show (Tree.mk ar 0 ak).rule = ar from rfl, levE_of hvy rfl, levE_of hva rfl]
              simp [h3])
            have hkd := HV.out.kinds l (List.mem_of_getElem? hlk)
            obtain ⟨b5, o5, A5, c5, eA, _, hb5, hk64, _, _, _, m0, m1⟩ := HSo.out.levels.level hlk
            obtain ⟨b6, o6, eL6, _, hb6, hvy64, hvyc⟩ := HSo.out.els.int hvy
            obtain ⟨b7, o7, eL7, _, hb7, hva64, hvac⟩ := HSo.out.els.int hva
            obtain ⟨bk, ok, Ax, cx, eB, hSk, hbk, hxi, hxt, hx1, hx2, hEx, kc0, kc1, kc2⟩ := (H1.out.2.2.2.below HB.out).tree (show ks[2]? = some ⟨yr, 0, yk⟩ by rw [e]; rfl)
            obtain ⟨bk', ok', Ax', cx', eB', hSk', hbk', hxi', hxt', hx1', hx2', hEx', kd0, kd1, kd2⟩ := (H1.out.2.2.2.below HB.out).tree (show ks[0]? = some ⟨ar, 0, ak⟩ by rw [e]; rfl)
            rw [eB] at eB'
            injection eB' with eB'
            injection eB' with e1 e2 _
            subst e1; subst e2
            have k0 : wo.cell? ⟨bk, ok + 6, none⟩ = some (.int .i64 yr) := kc0
            have k1 : wo.cell? ⟨bk, ok + 6 + 1, none⟩ = some (.int .i64 0) := kc1
            have k2 : wo.cell? ⟨bk, ok + 6 + 1 + 1, none⟩ = some (.slice Ax yk.length cx) := kc2
            have n0 : wo.cell? ⟨bk, ok, none⟩ = some (.int .i64 ar) := by have h := kd0; simp at h; exact h
            have hk2 : ks.length = 3 := by rw [e]; rfl
            rw [eB, hk2] at t2
            rw [HEL.out] at eL6 eL7
            injection eL6 with eL6
            injection eL6 with e1 e2 _
            subst e1; subst e2
            injection eL7 with eL7
            injection eL7 with e1 e2 _
            subst e1; subst e2
            subst eA
            have hkl2 : k < t.levels.length := (List.getElem?_eq_some_iff.1 hlk).1
            have hkl3 : (k : Int) < (t.levels.length : Int) := by omega
            have hk0 : (0 : Int) ≤ (k : Int) := by omega
            have hyl : yr < ((flatLev t).length : Int) := by have := (List.getElem?_eq_some_iff.1 hvy).1; omega
            have hal : ar < ((flatLev t).length : Int) := by have := (List.getElem?_eq_some_iff.1 hva).1; omega
            have hlvl9 : t.levels.length ≤ 9223372036854775807 := by omega
            have h5 : l.kind = 0 ∨ l.kind = 1 ∨ l.kind = 2 := by omega
            subst h
            clear hy hvy ha hva hlk ho h3 e hk64 m1 kc0 kc1 kc2 kd0 kd1 kd2 hEx hEx' hk2 hxt hxi hxt' hxi' hvy64 hva64 q1 hkd
            have q1 : ((k : Int) == (t.levels.length : Int)) = false := by simp; omega
            rcases h5 with h5 | h5 | h5
            · rw [h5] at m0
              have HN := Lib.hid (show nodeE t r ks = (decide ((k : Int) + 1 ≤ vy) && decide ((k : Int) + 1 ≤ va)) by rw [HN.out, h5]; simp)
              clear h5
              go_wp2_with fail
              by_cases hge : (k : Int) + 1 ≤ vy
              · by_cases hgl : (k : Int) + 1 ≤ va
                · have d1 : decide ((k : Int) + 1 ≤ vy) = true := decide_eq_true hge
                  have d2 : decide ((k : Int) + 1 ≤ va) = true := decide_eq_true hgl
                  have HD := Lib.hid (And.intro d1 d2)
                  go_quiet (fail)
                  clear d1 d2
                  go_wp2
                  go_ret
                  exact ⟨ret_bool (by rw [HE2.out, HN.out, HD.out.1, HD.out.2]; rfl), bdrewN (HBo.out.alloc HBo.out.size _)⟩
                · have d1 : decide ((k : Int) + 1 ≤ vy) = true := decide_eq_true hge
                  have d2 : decide ((k : Int) + 1 ≤ va) = false := decide_eq_false hgl
                  have HD := Lib.hid (And.intro d1 d2)
                  go_quiet (fail)
                  clear d1 d2
                  go_wp2
                  go_ret
                  exact ⟨ret_bool (by rw [HE2.out, HN.out, HD.out.1, HD.out.2]; rfl), bdrewN (HBo.out.alloc HBo.out.size _)⟩
              · have d1 : decide ((k : Int) + 1 ≤ vy) = false := decide_eq_false hge
                have HD := Lib.hid d1
                go_quiet (fail)
                clear d1
                go_wp2
                go_ret
                exact ⟨ret_bool (by rw [HE2.out, HN.out, HD.out]; rfl), bdrewN (HBo.out.alloc HBo.out.size _)⟩
            · rw [h5] at m0
              have HN := Lib.hid (show nodeE t r ks = (decide ((k : Int) + 1 ≤ vy) && decide ((k : Int) ≤ va)) by rw [HN.out, h5]; simp)
              clear h5
              go_wp2_with fail
              by_cases hge : (k : Int) + 1 ≤ vy
              · by_cases hgl : (k : Int) ≤ va
                · have d1 : decide ((k : Int) + 1 ≤ vy) = true := decide_eq_true hge
                  have d2 : decide ((k : Int) ≤ va) = true := decide_eq_true hgl
                  have HD := Lib.hid (And.intro d1 d2)
                  go_quiet (fail)
                  clear d1 d2
                  go_wp2
                  go_ret
                  exact ⟨ret_bool (by rw [HE2.out, HN.out, HD.out.1, HD.out.2]; rfl), bdrewN (HBo.out.alloc HBo.out.size _)⟩
                · have d1 : decide ((k : Int) + 1 ≤ vy) = true := decide_eq_true hge
                  have d2 : decide ((k : Int) ≤ va) = false := decide_eq_false hgl
                  have HD := Lib.hid (And.intro d1 d2)
                  go_quiet (fail)
                  clear d1 d2
                  go_wp2
                  go_ret
                  exact ⟨ret_bool (by rw [HE2.out, HN.out, HD.out.1, HD.out.2]; rfl), bdrewN (HBo.out.alloc HBo.out.size _)⟩
              · have d1 : decide ((k : Int) + 1 ≤ vy) = false := decide_eq_false hge
                have HD := Lib.hid d1
                go_quiet (fail)
                clear d1
                go_wp2
                go_ret
                exact ⟨ret_bool (by rw [HE2.out, HN.out, HD.out]; rfl), bdrewN (HBo.out.alloc HBo.out.size _)⟩
            · rw [h5] at m0
              have HN := Lib.hid (show nodeE t r ks = (decide ((k : Int) ≤ vy) && decide ((k : Int) + 1 ≤ va)) by rw [HN.out, h5]; simp)
              clear h5
              go_wp2_with fail
              by_cases hge : (k : Int) ≤ vy
              · by_cases hgl : (k : Int) + 1 ≤ va
                · have d1 : decide ((k : Int) ≤ vy) = true := decide_eq_true hge
                  have d2 : decide ((k : Int) + 1 ≤ va) = true := decide_eq_true hgl
                  have HD := Lib.hid (And.intro d1 d2)
                  go_quiet (fail)
                  clear d1 d2
                  go_wp2
                  go_ret
                  exact ⟨ret_bool (by rw [HE2.out, HN.out, HD.out.1, HD.out.2]; rfl), bdrewN (HBo.out.alloc HBo.out.size _)⟩
                · have d1 : decide ((k : Int) ≤ vy) = true := decide_eq_true hge
                  have d2 : decide ((k : Int) + 1 ≤ va) = false := decide_eq_false hgl
                  have HD := Lib.hid (And.intro d1 d2)
                  go_quiet (fail)
                  clear d1 d2
                  go_wp2
                  go_ret
                  exact ⟨ret_bool (by rw [HE2.out, HN.out, HD.out.1, HD.out.2]; rfl), bdrewN (HBo.out.alloc HBo.out.size _)⟩
              · have d1 : decide ((k : Int) ≤ vy) = false := decide_eq_false hge
                have HD := Lib.hid d1
                go_quiet (fail)
                clear d1
                go_wp2
                go_ret
                exact ⟨ret_bool (by rw [HE2.out, HN.out, HD.out]; rfl), bdrewN (HBo.out.alloc HBo.out.size _)⟩
end Go.Proofs.Ytnphbbhnfkjlcaa
