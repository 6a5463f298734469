/- Contract: the reference's TreeOf. -/
import Derived.Test.YtpcjfgikicpioaaQTreeOfT
namespace Go.Proofs.Ytpcjfgikicpioaa
open Go.RowKit
set_option linter.unusedVariables false

set_option maxRecDepth 100000 in
set_option maxHeartbeats 8000000 in
theorem treeOf_any (t : Table) (A : Option Addr) (c : Nat) (S : Nat → Prop) (hv : Valid t) (h64 : I64 t.terms ∧ I64 t.atom ∧ I64 t.opn ∧ I64 t.cls) (hlc : t.levels.length ≤ c) (hc : c ≤ 9223372036854775807) : ∀ (n : Nat) (l : List Int), l.length = n → l.length ≤ 1000000 → ∀ (B : Option Addr) (d k : Nat) (S' : Nat → Prop) (w : World), k ≤ 1000 → l.length ≤ d → d ≤ 9223372036854775807 →
    Els w S t.levels A → (∀ b, S b → b < w.heap.size) → Els w S' l B → (∀ b, S' b → b < w.heap.size) →
    Calls Try.prog 31 #[.agg #[.int .i64 t.terms, .int .i64 t.atom, .int .i64 t.opn, .int .i64 t.cls, .slice A t.levels.length c], .slice B l.length d, .int .i64 (k : Int)] w (RetTr t k l w) := by
  intro n
  induction n using Nat.strongRecOn with
  | _ n ih =>
  intro l hln hl9 B d k S' w hk hld hd hA hS hB hS'
  have IH := Lib.hid (fun (l' : List Int) (h : l'.length < l.length) => ih l'.length (by omega) l' rfl (by omega))
  have HV := Lib.hid hv
  have H64 := Lib.hid h64
  have HS := Lib.hid hS
  have HS' := Lib.hid hS'
  obtain ⟨w1, hw1⟩ : ∃ w1 : World, w1 = (w.alloc (.cells #[.int .i64 t.terms, .int .i64 t.atom, .int .i64 t.opn, .int .i64 t.cls, .slice A t.levels.length c] 24)).alloc (.cells #[.int .i64 0, .int .i64 0, .slice none 0 0] 28) := ⟨_, rfl⟩
  have hb1 : Below w.heap.size w w1 := by rw [hw1]; exact ((Below.refl _ _).alloc (Nat.le_refl _) _).alloc (by simp) _
  have hT1 : Blk' w1 w.heap.size 24 #[.int .i64 t.terms, .int .i64 t.atom, .int .i64 t.opn, .int .i64 t.cls, .slice A t.levels.length c] := by rw [hw1]; exact (Blk'.new w _ _).alloc _
  have hR1 : Blk' w1 (w.heap.size + 1) 28 #[.int .i64 0, .int .i64 0, .slice none 0 0] := by rw [hw1]; exact Blk'.new' _ _ _ (by simp)
  have HW1 := Lib.hid hw1
  have HB1 := Lib.hid hb1
  have HT1 := Lib.hid hT1
  have HR1 := Lib.hid hR1
  have HA1 := Lib.hid (hA.below hb1)
  have HL1 := Lib.hid (hB.below hb1)
  have t0 : w1.cell? ⟨w.heap.size, 0, none⟩ = some (.int .i64 t.terms) := hT1.cell 0
  have t1 : w1.cell? ⟨w.heap.size, 1, none⟩ = some (.int .i64 t.atom) := hT1.cell 1
  have t2 : w1.cell? ⟨w.heap.size, 2, none⟩ = some (.int .i64 t.opn) := hT1.cell 2
  have t3 : w1.cell? ⟨w.heap.size, 3, none⟩ = some (.int .i64 t.cls) := hT1.cell 3
  have t4 : w1.cell? ⟨w.heap.size, 4, none⟩ = some (.slice A t.levels.length c) := hT1.cell 4
  have zT : w.heap.size < w1.heap.size := hT1.lt
  have zR : w.heap.size + 1 < w1.heap.size := hR1.lt
  subst hln
  clear ih hv h64 hS hS' hw1 hb1 hT1 hR1 hA hB
  go_enter Try.func31, Try.ntmps31
  go_upto_region 3 with (fail)
  rw [← HW1.out]
  go_cut [35] (fun v wx => v = .bool (oneB t l) ∧ Below w1.heap.size w1 wx)
  case first =>
    by_cases h1 : l.length = 1
    · obtain ⟨a, ha⟩ := get_some (show 0 < l.length by omega)
      obtain ⟨b0, o0, rfl, hS0, hb0, ha64, hc0⟩ := HL1.out.int ha
      have hl1 : ((l.length : Int) == 1) = true := by simp [h1]
      rw [Nat.add_zero] at hc0
      have hla : l = [a] := by
        match l, h1, ha with
        | [x], _, ha => simpa using ha
      by_cases hat : a = t.atom
      · have hE : (a == t.atom) = true := by simp [hat]
        have HE := Lib.hid (show oneB t l = true by simp [oneB, hla, hat])
        clear ha hat hla
        go_wp2_with fail
        go_quiet (fail)
        go_wp2
        go_meet
        exact ⟨by rw [HE.out], bdrewN (Below.refl _ _)⟩
      · have hE : (a == t.atom) = false := by simp [hat]
        have HE := Lib.hid (show oneB t l = false by simp [oneB, hla, hat])
        clear ha hat hla
        go_wp2_with fail
        go_quiet (fail)
        go_wp2
        go_meet
        exact ⟨by rw [HE.out], bdrewN (Below.refl _ _)⟩
    · have hl1 : ((l.length : Int) == 1) = false := by
        rw [beq_eq_false_iff_ne]; omega
      have HE := Lib.hid (show oneB t l = false by
        simp only [oneB, decide_eq_false_iff_not]
        rintro rfl
        simp at h1)
      clear h1
      go_wp2_with fail
      go_quiet (fail)
      go_wp2
      go_meet
      exact ⟨by rw [HE.out], bdrewN (Below.refl _ _)⟩
  case rest =>
  obtain ⟨rfl, hbc⟩ := hcut
  have HBwc := Lib.hid (bthen HB1.out hbc HB1.out.size)
  have HTc := Lib.hid (HT1.out.below hbc HT1.out.lt)
  have HRc := Lib.hid (HR1.out.below hbc HR1.out.lt)
  have HAc := Lib.hid (HA1.out.below hbc)
  have HLc := Lib.hid (HL1.out.below hbc)
  clear t0 t1 t2 t3 t4 zT zR hbc HT1 HR1 HA1 HL1
  have t0 : wc.cell? ⟨w.heap.size, 0, none⟩ = some (.int .i64 t.terms) := HTc.out.cell 0
  have t1 : wc.cell? ⟨w.heap.size, 1, none⟩ = some (.int .i64 t.atom) := HTc.out.cell 1
  have t2 : wc.cell? ⟨w.heap.size, 2, none⟩ = some (.int .i64 t.opn) := HTc.out.cell 2
  have t3 : wc.cell? ⟨w.heap.size, 3, none⟩ = some (.int .i64 t.cls) := HTc.out.cell 3
  have t4 : wc.cell? ⟨w.heap.size, 4, none⟩ = some (.slice A t.levels.length c) := HTc.out.cell 4
  have zT : w.heap.size < wc.heap.size := HTc.out.lt
  have zR : w.heap.size + 1 < wc.heap.size := HRc.out.lt
  obtain ⟨bo, hone⟩ : ∃ bo : Bool, bo = oneB t l := ⟨_, rfl⟩
  rw [← hone]
  cases bo
  case true =>
    have hla : l = [t.atom] := by have h := hone.symm; simpa [oneB] using h
    have hl0 : l[0]? = some t.atom := by rw [hla]; rfl
    obtain ⟨b0, o0, rfl, hS0, hb0, ha64, hc0⟩ := HLc.out.int hl0
    rw [Nat.add_zero] at hc0
    have hlen : (0 : Int) < (l.length : Int) := by rw [hla]; simp
    have HLA := Lib.hid hla
    have HA64 := Lib.hid ha64
    clear hla hl0 ha64 hone
    go_wp2_with fail
    refine (leafOf_any _ _).mono ?_
    rintro e w2 ⟨rfl, hb2⟩
    have HR2 := Lib.hid (HRc.out.below hb2 HRc.out.lt)
    have H2 := Lib.hid (bthen HBwc.out hb2 HBwc.out.size)
    have r0 : w2.cell? ⟨w.heap.size + 1, 0, none⟩ = some (.int .i64 0) := HR2.out.cell 0
    have r1 : w2.cell? ⟨w.heap.size + 1, 1, none⟩ = some (.int .i64 0) := HR2.out.cell 1
    have r2 : w2.cell? ⟨w.heap.size + 1, 2, none⟩ = some (.slice none 0 0) := HR2.out.cell 2
    have f0 := HR2.out.frozen 0
    have f1 := HR2.out.frozen 1
    have f2 := HR2.out.frozen 2
    have zR2 : w.heap.size + 1 < w2.heap.size := HR2.out.lt
    clear hb2
    go_wp2
    generalize hwF : World.alloc _ _ = wF
    obtain ⟨⟨v0, v1, v2⟩, hN, hz, hKF, hbF⟩ := tr_fin H2.out HR2.out (Nat.le_succ _) hwF.symm
    have hEF : Els wF (fun b => w.heap.size ≤ b ∧ b < wF.heap.size) [leafT t.atom] (some ⟨w2.heap.size, 0, none⟩) := els_one (cs := [_, _, _]) hN (rd_leaf HA64.out) ⟨by omega, by omega⟩
    clear hwF
    exact bodyPost_ret (v := .tuple #[.agg #[.int .i64 0, .int .i64 0, .slice (some ⟨w2.heap.size, 0, none⟩) 1 1], .bool true]) (by simp [results, Try.results31, go_sem, v0, v1, v2]) rfl ⟨true, ⟨0, 0, [leafT t.atom]⟩, _, 1, rfl, ⟨i64_0, i64_0, Nat.le_refl _, by omega, hEF⟩, ⟨fun _ => by rw [HLA.out]; exact .atom k, fun h => by cases h⟩, hbF⟩
  case false =>
    have HNA : Hid (l ≠ [t.atom]) := Lib.hid (by have h := hone.symm; simpa [oneB] using h)
    clear hone
    go_upto_if 45 with (fail)
    obtain ⟨wd, hwd⟩ : ∃ wd : World, wd = wc := ⟨_, rfl⟩
    subst hwd
    go_cut [10] (fun v wx => v = .int .i64 (baseN t : Int) ∧ (brk t = true → ∀ u x, l = t.opn :: (u ++ [t.cls]) → ¬ Lv t 0 x u) ∧ Below wd.heap.size wd wx)
    case first =>
      by_cases hop : t.opn = -1
      · have HE := Lib.hid (show brk t = false by rw [HV.out.hbrk]; simp [hop])
        have hE : (t.opn != -1) = false := by simp [hop]
        clear hop
        go_wp2_with fail
        go_meet
        exact ⟨by simp [baseN, HE.out], fun h => by (rw [HE.out] at h; cases h), Below.refl _ _⟩
      · have HE := Lib.hid (show brk t = true by rw [HV.out.hbrk]; simp [hop])
        have hE : (t.opn != -1) = true := by simp [hop]
        clear hop
        go_upto_region 8 with (fail)
        go_cut [65] (fun v wx => v = .bool (brB t l) ∧ Below wd.heap.size wd wx)
        case first =>
          by_cases hl2 : 2 < l.length
          · obtain ⟨a, ha⟩ := get_some (show 0 < l.length by omega)
            obtain ⟨m, hm⟩ : ∃ m : Nat, m = l.length - 1 := ⟨_, rfl⟩
            obtain ⟨b, hb⟩ := get_some (show m < l.length by omega)
            obtain ⟨b0, o0, rfl, hS0, hb0, ha64, hc0⟩ := HLc.out.int ha
            obtain ⟨b1, o1, hbo, hS1, hb1, hb64, hc1⟩ := HLc.out.int hb
            injection hbo with hbo
            injection hbo with e1 e2 _
            subst e1; subst e2
            rw [Nat.add_zero] at hc0
            have hg : decide ((l.length : Int) > 2) = true := decide_eq_true (by omega)
            have hw9 : IntKind.i64.wrap ((l.length : Int) - 1) = (m : Int) := by rw [IntWalk.i64_in _ (by omega)]; omega
            have m0 : (0 : Int) ≤ (m : Int) := by omega
            have m1 : (m : Int) < (l.length : Int) := by omega
            have l0 : (0 : Int) < (l.length : Int) := by omega
            have HQ := Lib.hid (show brB t l = (decide (a = t.opn) && decide (b = t.cls)) by
              rw [Bool.eq_iff_iff]
              simp only [brB, decide_eq_true_eq, Bool.and_eq_true, ha, ← hm, hb, Option.some.injEq]
              exact ⟨fun h => h.2, fun h => ⟨hl2, h⟩⟩)
            by_cases hat : a = t.opn
            · have hE1 : (a == t.opn) = true := by simp [hat]
              by_cases hbt : b = t.cls
              · have hE2 : (b == t.cls) = true := by simp [hbt]
                have HR := Lib.hid (show brB t l = true by rw [HQ.out]; simp [hat, hbt])
                clear hm ha hb hat hbt HQ
                go_wp2_with fail
                go_quiet (fail)
                go_wp2
                go_meet
                exact ⟨by rw [HR.out], bdrewN (Below.refl _ _)⟩
              · have hE2 : (b == t.cls) = false := by simp [hbt]
                have HR := Lib.hid (show brB t l = false by rw [HQ.out]; simp [hbt])
                clear hm ha hb hat hbt HQ
                go_wp2_with fail
                go_quiet (fail)
                go_wp2
                go_meet
                exact ⟨by rw [HR.out], bdrewN (Below.refl _ _)⟩
            · have hE1 : (a == t.opn) = false := by simp [hat]
              have HR := Lib.hid (show brB t l = false by rw [HQ.out]; simp [hat])
              clear hm ha hb hat HQ
              go_wp2_with fail
              go_quiet (fail)
              go_wp2
              go_meet
              exact ⟨by rw [HR.out], bdrewN (Below.refl _ _)⟩
          · have hg : decide ((l.length : Int) > 2) = false := decide_eq_false (by omega)
            have HR := Lib.hid (show brB t l = false by simp [brB, hl2])
            go_wp2_with fail
            go_quiet (fail)
            go_wp2
            go_meet
            exact ⟨by rw [HR.out], bdrewN (Below.refl _ _)⟩
        case rest =>
        obtain ⟨rfl, hb8⟩ := hcut
        obtain ⟨we, hwe⟩ : ∃ we : World, we = wc := ⟨_, rfl⟩
        subst hwe
        obtain ⟨br, hbr⟩ : ∃ br : Bool, br = brB t l := ⟨_, rfl⟩
        rw [← hbr]
        have HB8 := Lib.hid hb8
        have HBR := Lib.hid hbr
        clear hbr
        cases br
        case false =>
          clear hb8
          go_wp2_with fail
          go_meet
          refine ⟨by simp [baseN, HE.out], fun _ u x he hx => ?_, HB8.out⟩
          have hu := hx.ne
          have h9 : brB t l = true := by
            have e2 : (t.opn :: (u ++ [t.cls])).length - 1 = u.length + 1 := by simp
            rw [he, brB, e2, decide_eq_true_eq]
            exact ⟨by simp; omega, rfl, by simp⟩
          have h8 := HBR.out
          rw [h9] at h8
          cases h8
        case true =>
          have hq : 2 < l.length ∧ l[0]? = some t.opn ∧ l[l.length - 1]? = some t.cls := by have h := HBR.out.symm; simpa [brB] using h
          obtain ⟨hl2, hq0, hq1⟩ := hq
          obtain ⟨m, hm⟩ : ∃ m : Nat, m = l.length - 1 := ⟨_, rfl⟩
          rw [← hm] at hq1
          obtain ⟨b0, o0, rfl, hS0, hb0, ha64, hc0⟩ := (HLc.out.below hb8).int hq0
          obtain ⟨b1, o1, hbo, hS1, hb1, hb64, hc1⟩ := (HLc.out.below hb8).int hq1
          injection hbo with hbo
          injection hbo with e1 e2 _
          subst e1; subst e2
          rw [Nat.add_zero] at hc0
          have hw9 : IntKind.i64.wrap ((l.length : Int) - 1) = (m : Int) := by rw [IntWalk.i64_in _ (by omega)]; omega
          have m0 : (0 : Int) ≤ (m : Int) := by omega
          have m1 : (m : Int) < (l.length : Int) := by omega
          have m2 : (m : Int) ≤ (d : Int) := by omega
          have m3 : (1 : Int) ≤ (m : Int) := by omega
          have l0 : (0 : Int) < (l.length : Int) := by omega
          have l0n : 0 < l.length := by omega
          have mn : m < l.length := by omega
          have HTe := Lib.hid (HTc.out.below hb8 HTc.out.lt)
          have HRe := Lib.hid (HRc.out.below hb8 HRc.out.lt)
          have HAe := Lib.hid (HAc.out.below hb8)
          have HLe := Lib.hid (HLc.out.below hb8)
          have HBwe := Lib.hid (bthen HBwc.out hb8 HBwc.out.size)
          clear t0 t1 t2 t3 t4 zT zR hb8
          have t0 : we.cell? ⟨w.heap.size, 0, none⟩ = some (.int .i64 t.terms) := HTe.out.cell 0
          have t1 : we.cell? ⟨w.heap.size, 1, none⟩ = some (.int .i64 t.atom) := HTe.out.cell 1
          have t2 : we.cell? ⟨w.heap.size, 2, none⟩ = some (.int .i64 t.opn) := HTe.out.cell 2
          have t3 : we.cell? ⟨w.heap.size, 3, none⟩ = some (.int .i64 t.cls) := HTe.out.cell 3
          have t4 : we.cell? ⟨w.heap.size, 4, none⟩ = some (.slice A t.levels.length c) := HTe.out.cell 4
          have zT : w.heap.size < we.heap.size := HTe.out.lt
          have zR : w.heap.size + 1 < we.heap.size := HRe.out.lt
          have HM := Lib.hid (And.intro hl2 (And.intro hm (And.intro hq0 hq1)))
          have HA2 := Lib.hid (And.intro ha64 hb64)
          clear hm hq0 hq1 ha64 hb64
          have hlen : ((l.take m).drop 1).length = m - 1 := by rw [List.length_drop, List.length_take]; omega
          have HI := Lib.hid (fun (w' : World) (hb : Below we.heap.size we w') => (by
            have h := IH.out ((l.take m).drop 1) (by omega) (some ⟨b0, o0 + 1, none⟩) (d - 1) 0 S' w' (by omega) (by omega) (by omega) (HAe.out.below hb) (fun b h => by have := HS.out b h; have := hb.size; omega) (dropI ((HLe.out.below hb).takeS m) 1) (fun b h => by have := HS'.out b h; have := hb.size; omega)
            rw [hlen] at h
            exact h : Calls Try.prog 31 #[.agg #[.int .i64 t.terms, .int .i64 t.atom, .int .i64 t.opn, .int .i64 t.cls, .slice A t.levels.length c], .slice (some ⟨b0, o0 + 1, none⟩) (m - 1) (d - 1), .int .i64 0] w' (RetTr t 0 ((l.take m).drop 1) w')))
          have hd1 : (d = 1) = False := by simp; omega
          clear hlen
          go_upto_region 9 with (fail)
          go_cut [11, 12] (fun p v wx => Got t 0 ((l.take m).drop 1) we p v wx)
          case first =>
            refine wp_region_noPanic ?_
            refine wp_region_held_drew (S := (fun w' => w'.cell? ⟨w.heap.size, 0, none⟩ = some (.int .i64 t.terms) ∧ w'.cell? ⟨w.heap.size, 1, none⟩ = some (.int .i64 t.atom) ∧ w'.cell? ⟨w.heap.size, 2, none⟩ = some (.int .i64 t.opn) ∧ w'.cell? ⟨w.heap.size, 3, none⟩ = some (.int .i64 t.cls) ∧ w'.cell? ⟨w.heap.size, 4, none⟩ = some (.slice A t.levels.length c))) (by kernel_rfl) ?hr9 (fun hHeld => ?br9)
            case hr9 => ((try dsimp only); go_keep)
            refine take_run (i := 0) (v := ?vr90) rfl (by kernel_rfl) (by kernel_rfl) (by kernel_rfl) (fun _ _ _ h => h) (by rfl) ?yr90 (by assumption) ?rr90
            case yr90 => (intro w hSw; (try dsimp only at hSw); go_simp; try with_reducible rfl)
            try simp only [Act.put, List.setIfInBounds_toArray, List.set_cons_zero, List.set_cons_succ]
            refine take_run (i := 1) (v := ?vr91) rfl (by kernel_rfl) (by kernel_rfl) (by kernel_rfl) (fun _ _ _ h => h) (by rfl) ?yr91 (by assumption) ?rr91
            case yr91 => (intro w hSw; (try dsimp only at hSw); go_simp; try with_reducible rfl)
            try simp only [Act.put, List.setIfInBounds_toArray, List.set_cons_zero, List.set_cons_succ]
            refine take_run (i := 2) (v := ?vr92) rfl (by kernel_rfl) (by kernel_rfl) (by kernel_rfl) (fun _ _ _ h => h) (by rfl) ?yr92 (by assumption) ?rr92
            case yr92 => (intro w hSw; (try dsimp only at hSw); go_simp; try with_reducible rfl)
            try simp only [Act.put, List.setIfInBounds_toArray, List.set_cons_zero, List.set_cons_succ]
            refine take_run (i := 3) (v := ?vr93) rfl (by kernel_rfl) (by kernel_rfl) (by kernel_rfl) (fun _ _ _ h => h) (by rfl) ?yr93 (by assumption) ?rr93
            case yr93 => (intro w hSw; (try dsimp only at hSw); go_simp; try with_reducible rfl)
            try simp only [Act.put, List.setIfInBounds_toArray, List.set_cons_zero, List.set_cons_succ]
            refine take_run (i := 4) (v := ?vr94) rfl (by kernel_rfl) (by kernel_rfl) (by kernel_rfl) (fun _ _ _ h => h) (by rfl) ?yr94 (by assumption) ?rr94
            case yr94 => (intro w hSw; (try dsimp only at hSw); go_simp; try with_reducible rfl)
            try simp only [Act.put, List.setIfInBounds_toArray, List.set_cons_zero, List.set_cons_succ]
            refine take_two (i := 5) (j := 9) rfl rfl (by kernel_rfl) (by rfl) (by rfl) (fun Kq hK => ?oner95) (fun Kq hK => ?twor95)
            case oner95 =>
              go_simp
              go_at_call 31
              refine (HI.out _ (below_drew _)).mono ?_
              rintro e w6 ⟨b, x, A6, c6, rfl, ho, ha, hb6⟩
              have hbe := bundrew hb6
              have zz : we.heap.size < w6.heap.size + 1 := Nat.lt_succ_of_le hbe.size
              have hT6 := HTe.out.below hbe HTe.out.lt
              have HO6 := Lib.hid (And.intro ho (And.intro ha hb6))
              have z6 := hbe.size
              have t0' : w6.cell? ⟨w.heap.size, 0, none⟩ = some (.int .i64 t.terms) := hT6.cell 0
              have t1' : w6.cell? ⟨w.heap.size, 1, none⟩ = some (.int .i64 t.atom) := hT6.cell 1
              have t2' : w6.cell? ⟨w.heap.size, 2, none⟩ = some (.int .i64 t.opn) := hT6.cell 2
              have t3' : w6.cell? ⟨w.heap.size, 3, none⟩ = some (.int .i64 t.cls) := hT6.cell 3
              have t4' : w6.cell? ⟨w.heap.size, 4, none⟩ = some (.slice A t.levels.length c) := hT6.cell 4
              have KS6 := Lib.hid (fun (w' : World) (k : Kept (fun b => we.heap.size ≤ b) w6 w') => (have h := hT6.kept k (Nat.not_le_of_lt HTe.out.lt); And.intro (h.cell 0) (And.intro (h.cell 1) (And.intro (h.cell 2) (And.intro (h.cell 3) (h.cell 4))))))
              clear ho ha hb6 hbe hT6
              refine hK.out _ _ ?hr9a5 (fun hHeld => ?rr9a5)
              case hr9a5 => ((try dsimp only); go_keep)
              clear hK Kq
              try simp only [Act.put, List.setIfInBounds_toArray, List.set_cons_zero, List.set_cons_succ]
              refine take_run (i := 6) (v := ?vr9a6) rfl (by kernel_rfl) (by kernel_rfl) (by kernel_rfl) (fun _ _ _ h => h) (by rfl) ?yr9a6 (by assumption) ?rr9a6
              case yr9a6 => (intro w hSw; (try dsimp only at hSw); go_simp; try with_reducible rfl)
              try simp only [Act.put, List.setIfInBounds_toArray, List.set_cons_zero, List.set_cons_succ]
              refine take_run (i := 7) (v := ?vr9a7) rfl (by kernel_rfl) (by kernel_rfl) (by kernel_rfl) (fun _ _ _ h => h) (by rfl) ?yr9a7 (by assumption) ?rr9a7
              case yr9a7 => (intro w hSw; (try dsimp only at hSw); go_simp; try with_reducible rfl)
              try simp only [Act.put, List.setIfInBounds_toArray, List.set_cons_zero, List.set_cons_succ]
              refine take_run (i := 8) (v := ?vr9a8) rfl (by kernel_rfl) (by kernel_rfl) (by kernel_rfl) (fun _ _ _ h => h) (by rfl) ?yr9a8 (by assumption) ?rr9a8
              case yr9a8 => (intro w hSw; (try dsimp only at hSw); go_simp; try with_reducible rfl)
              try simp only [Act.put, List.setIfInBounds_toArray, List.set_cons_zero, List.set_cons_succ]
              refine take_call (i := 9) rfl (by kernel_rfl) (by rfl) (fun Kq hK => ?_)
              go_simp
              refine hK.out _ _ ?hr9a9 (fun hHeld => ?rr9a9)
              case hr9a9 => (first | ((try dsimp only); go_keep; done) | exact KS6.out _ ((Kept.refl _ _).alloc _))
              clear hK Kq
              try simp only [Act.put, List.setIfInBounds_toArray, List.set_cons_zero, List.set_cons_succ]
              refine take_call (i := 10) rfl (by kernel_rfl) (by rfl) (fun Kq hK => ?_)
              go_simp
              refine hK.out _ _ ?hr9a10 (fun hHeld => ?rr9a10)
              case hr9a10 => (first | ((try dsimp only); go_keep; done) | exact KS6.out _ ((Kept.refl _ _).alloc _) | exact KS6.out _ ((((Kept.refl (fun b => we.heap.size ≤ b) w6).setCell (p := ⟨we.heap.size, 0, none⟩) (.inl (Nat.le_refl _)) _).setCell (p := ⟨we.heap.size, 1, none⟩) (.inl (Nat.le_refl _)) _).setCell (p := ⟨we.heap.size, 2, none⟩) (.inl (Nat.le_refl _)) _))
              clear hK Kq
              try simp only [Act.put, List.setIfInBounds_toArray, List.set_cons_zero, List.set_cons_succ]
              refine take_run (i := 11) (v := ?vr9a11) rfl (by kernel_rfl) (by kernel_rfl) (by kernel_rfl) (fun _ _ _ h => h) (by rfl) ?yr9a11 (by assumption) ?rr9a11
              case yr9a11 => (intro w hSw; (try dsimp only at hSw); go_simp; try with_reducible rfl)
              try simp only [Act.put, List.setIfInBounds_toArray, List.set_cons_zero, List.set_cons_succ]
              refine wpAnyH_done (by kernel_rfl) ?_ _
              refine NoPanic.normal ?_
              go_wp2_with fail
              go_meet
              exact got_a HO6.out.1 HO6.out.2.1 (bundrew HO6.out.2.2) rfl
            case twor95 =>
              go_simp
              refine hK.out _ _ ?hr9b9 (fun hHeld => ?rr9b9)
              case hr9b9 => ((try dsimp only); go_keep)
              clear hK Kq
              try simp only [Act.put, List.setIfInBounds_toArray, List.set_cons_zero, List.set_cons_succ]
              refine take_call (i := 5) rfl (by kernel_rfl) (by rfl) (fun Kq hK => ?_)
              go_simp
              go_at_call 31
              refine (HI.out _ ((below_drew _).alloc (Nat.le_refl _) _)).mono ?_
              rintro e w6 ⟨b, x, A6, c6, rfl, ho, ha, hb6⟩
              have hbe := bthen ((below_drew we).alloc (Nat.le_refl _) _) hb6 ((below_drew we).alloc (Nat.le_refl _) _).size
              have hG6 : Blk' w6 we.heap.size 28 #[.int .i64 0, .int .i64 0, .slice none 0 0] := (Blk'.new we.drew 28 #[.int .i64 0, .int .i64 0, .slice none 0 0]).below hb6 (Blk'.new we.drew _ _).lt
              have g0 : w6.cell? ⟨we.heap.size, 0, none⟩ = some (.int .i64 0) := hG6.cell 0
              have g1 : w6.cell? ⟨we.heap.size, 1, none⟩ = some (.int .i64 0) := hG6.cell 1
              have g2 : w6.cell? ⟨we.heap.size, 2, none⟩ = some (.slice none 0 0) := hG6.cell 2
              have y0 : w6.frozen? ⟨we.heap.size, 0, none⟩ = false := hG6.frozen 0
              have y1 : w6.frozen? ⟨we.heap.size, 1, none⟩ = false := hG6.frozen 1
              have y2 : w6.frozen? ⟨we.heap.size, 2, none⟩ = false := hG6.frozen 2
              have zz : we.heap.size < w6.heap.size := hG6.lt
              clear hG6
              have hT6 := HTe.out.below hbe HTe.out.lt
              have HO6 := Lib.hid (And.intro ho (And.intro ha hb6))
              have z6 := hbe.size
              have t0' : w6.cell? ⟨w.heap.size, 0, none⟩ = some (.int .i64 t.terms) := hT6.cell 0
              have t1' : w6.cell? ⟨w.heap.size, 1, none⟩ = some (.int .i64 t.atom) := hT6.cell 1
              have t2' : w6.cell? ⟨w.heap.size, 2, none⟩ = some (.int .i64 t.opn) := hT6.cell 2
              have t3' : w6.cell? ⟨w.heap.size, 3, none⟩ = some (.int .i64 t.cls) := hT6.cell 3
              have t4' : w6.cell? ⟨w.heap.size, 4, none⟩ = some (.slice A t.levels.length c) := hT6.cell 4
              have KS6 := Lib.hid (fun (w' : World) (k : Kept (fun b => we.heap.size ≤ b) w6 w') => (have h := hT6.kept k (Nat.not_le_of_lt HTe.out.lt); And.intro (h.cell 0) (And.intro (h.cell 1) (And.intro (h.cell 2) (And.intro (h.cell 3) (h.cell 4))))))
              clear ho ha hb6 hbe hT6
              refine hK.out _ _ ?hr9c (fun hHeld => ?rr9c)
              case hr9c => ((try dsimp only); go_keep)
              clear hK Kq
              try simp only [Act.put, List.setIfInBounds_toArray, List.set_cons_zero, List.set_cons_succ]
              refine take_run (i := 6) (v := ?vr9b6) rfl (by kernel_rfl) (by kernel_rfl) (by kernel_rfl) (fun _ _ _ h => h) (by rfl) ?yr9b6 (by assumption) ?rr9b6
              case yr9b6 => (intro w hSw; (try dsimp only at hSw); go_simp; try with_reducible rfl)
              try simp only [Act.put, List.setIfInBounds_toArray, List.set_cons_zero, List.set_cons_succ]
              refine take_run (i := 7) (v := ?vr9b7) rfl (by kernel_rfl) (by kernel_rfl) (by kernel_rfl) (fun _ _ _ h => h) (by rfl) ?yr9b7 (by assumption) ?rr9b7
              case yr9b7 => (intro w hSw; (try dsimp only at hSw); go_simp; try with_reducible rfl)
              try simp only [Act.put, List.setIfInBounds_toArray, List.set_cons_zero, List.set_cons_succ]
              refine take_run (i := 8) (v := ?vr9b8) rfl (by kernel_rfl) (by kernel_rfl) (by kernel_rfl) (fun _ _ _ h => h) (by rfl) ?yr9b8 (by assumption) ?rr9b8
              case yr9b8 => (intro w hSw; (try dsimp only at hSw); go_simp; try with_reducible rfl)
              try simp only [Act.put, List.setIfInBounds_toArray, List.set_cons_zero, List.set_cons_succ]
              refine take_call (i := 10) rfl (by kernel_rfl) (by rfl) (fun Kq hK => ?_)
              go_simp
              refine hK.out _ _ ?hr9b10 (fun hHeld => ?rr9b10)
              case hr9b10 => (first | ((try dsimp only); go_keep; done) | exact KS6.out _ ((Kept.refl _ _).alloc _) | exact KS6.out _ ((((Kept.refl (fun b => we.heap.size ≤ b) w6).setCell (p := ⟨we.heap.size, 0, none⟩) (.inl (Nat.le_refl _)) _).setCell (p := ⟨we.heap.size, 1, none⟩) (.inl (Nat.le_refl _)) _).setCell (p := ⟨we.heap.size, 2, none⟩) (.inl (Nat.le_refl _)) _))
              clear hK Kq
              try simp only [Act.put, List.setIfInBounds_toArray, List.set_cons_zero, List.set_cons_succ]
              refine take_run (i := 11) (v := ?vr9b11) rfl (by kernel_rfl) (by kernel_rfl) (by kernel_rfl) (fun _ _ _ h => h) (by rfl) ?yr9b11 (by assumption) ?rr9b11
              case yr9b11 => (intro w hSw; (try dsimp only at hSw); go_simp; try with_reducible rfl)
              try simp only [Act.put, List.setIfInBounds_toArray, List.set_cons_zero, List.set_cons_succ]
              refine wpAnyH_done (by kernel_rfl) ?_ _
              refine NoPanic.normal ?_
              go_wp2_with fail
              go_meet
              exact got_c HO6.out.1 HO6.out.2.1 HO6.out.2.2 rfl
          case rest =>
          obtain ⟨b, x, A6, c6, g, rfl, rfl, hg, hG, ho, ha, hb9⟩ := hcut
          obtain ⟨wf, hwf⟩ : ∃ wf : World, wf = wc := ⟨_, rfl⟩
          subst hwf
          cases b
          case false =>
            have HA9 := Lib.hid (ha.2 rfl)
            have HB9 := Lib.hid hb9
            clear hG ho ha hb9 hc0 hc1
            go_wp2_with fail
            go_meet
            refine ⟨by simp [baseN, HE.out], fun _ u x he hx => HA9.out x ?_, bthen HB8.out HB9.out HB8.out.size⟩
            have hm := HM.out.2.1
            have e9 : (l.take m).drop 1 = u := by
              rw [hm, he]
              simp
            rw [e9]
            exact hx
          case true =>
            have HXt := Lib.hid (ha.1 rfl)
            have HXo := Lib.hid ho
            have HXb := Lib.hid hb9
            have zRg : w.heap.size + 1 < g := Nat.lt_of_lt_of_le zR hg
            have HKS : Hid (∀ w' : World, Below wf.heap.size wf w' → w'.cell? ⟨b0, o0, none⟩ = some (.int .i64 t.opn) ∧ w'.cell? ⟨b0, o0 + m, none⟩ = some (.int .i64 t.cls) ∧ w'.cell? ⟨g, 0, none⟩ = some (.int .i64 x.rule) ∧ w'.cell? ⟨g, 1, none⟩ = some (.int .i64 x.term) ∧ w'.cell? ⟨g, 2, none⟩ = some (.slice A6 x.kids.length c6)) := Lib.hid (fun w' hb => by
              have h1 := hG.below hb hG.lt
              have h2 := bthen hb9 hb hb9.size
              exact ⟨((bcell h2).1 b0 o0 hb0).trans hc0, ((bcell h2).1 b0 (o0 + m) hb0).trans hc1, h1.cell 0, h1.cell 1, h1.cell 2⟩)
            have HRf := Lib.hid (HRe.out.below hb9 HRe.out.lt)
            have HGf := Lib.hid hG.lt
            have HBwf := Lib.hid (bthen HBwe.out hb9 HBwe.out.size)
            have q0 : wf.cell? ⟨b0, o0, none⟩ = some (.int .i64 t.opn) := (HKS.out _ (Below.refl _ _)).1
            have q1 : wf.cell? ⟨b0, o0 + m, none⟩ = some (.int .i64 t.cls) := (HKS.out _ (Below.refl _ _)).2.1
            have g0 : wf.cell? ⟨g, 0, none⟩ = some (.int .i64 x.rule) := hG.cell 0
            have g1 : wf.cell? ⟨g, 1, none⟩ = some (.int .i64 x.term) := hG.cell 1
            have g2 : wf.cell? ⟨g, 2, none⟩ = some (.slice A6 x.kids.length c6) := hG.cell 2
            clear hG ho ha hb9 hc0 hc1
            go_upto_region 11 with (fail)
            refine wp_region_noPanic ?_
            refine wp_region_held_drew (S := (fun w' => w'.cell? ⟨b0, o0, none⟩ = some (.int .i64 t.opn) ∧ w'.cell? ⟨b0, o0 + m, none⟩ = some (.int .i64 t.cls) ∧ w'.cell? ⟨g, 0, none⟩ = some (.int .i64 x.rule) ∧ w'.cell? ⟨g, 1, none⟩ = some (.int .i64 x.term) ∧ w'.cell? ⟨g, 2, none⟩ = some (.slice A6 x.kids.length c6))) (by kernel_rfl) ?hr11 (fun hHeld => ?br11)
            case hr11 => ((try dsimp only); go_keep)
            refine take_run (i := 0) (v := ?vr110) rfl (by kernel_rfl) (by kernel_rfl) (by kernel_rfl) (fun _ _ _ h => h) (by rfl) ?yr110 (by assumption) ?rr110
            case yr110 => (intro w hSw; (try dsimp only at hSw); go_simp; try with_reducible rfl)
            try simp only [Act.put, List.setIfInBounds_toArray, List.set_cons_zero, List.set_cons_succ]
            refine take_run (i := 1) (v := ?vr111) rfl (by kernel_rfl) (by kernel_rfl) (by kernel_rfl) (fun _ _ _ h => h) (by rfl) ?yr111 (by assumption) ?rr111
            case yr111 => (intro w hSw; (try dsimp only at hSw); go_simp; try with_reducible rfl)
            try simp only [Act.put, List.setIfInBounds_toArray, List.set_cons_zero, List.set_cons_succ]
            refine take_run (i := 2) (v := ?vr112) rfl (by kernel_rfl) (by kernel_rfl) (by kernel_rfl) (fun _ _ _ h => h) (by rfl) ?yr112 (by assumption) ?rr112
            case yr112 => (intro w hSw; (try dsimp only at hSw); go_simp; try with_reducible rfl)
            try simp only [Act.put, List.setIfInBounds_toArray, List.set_cons_zero, List.set_cons_succ]
            refine take_run (i := 3) (v := ?vr113) rfl (by kernel_rfl) (by kernel_rfl) (by kernel_rfl) (fun _ _ _ h => h) (by rfl) ?yr113 (by assumption) ?rr113
            case yr113 => (intro w hSw; (try dsimp only at hSw); go_simp; try with_reducible rfl)
            try simp only [Act.put, List.setIfInBounds_toArray, List.set_cons_zero, List.set_cons_succ]
            refine take_run (i := 5) (v := ?vr115) rfl (by kernel_rfl) (by kernel_rfl) (by kernel_rfl) (fun _ _ _ h => h) (by rfl) ?yr115 (by assumption) ?rr115
            case yr115 => (intro w hSw; (try dsimp only at hSw); go_simp; try with_reducible rfl)
            try simp only [Act.put, List.setIfInBounds_toArray, List.set_cons_zero, List.set_cons_succ]
            refine take_run (i := 6) (v := ?vr116) rfl (by kernel_rfl) (by kernel_rfl) (by kernel_rfl) (fun _ _ _ h => h) (by rfl) ?yr116 (by assumption) ?rr116
            case yr116 => (intro w hSw; (try dsimp only at hSw); go_simp; try with_reducible rfl)
            try simp only [Act.put, List.setIfInBounds_toArray, List.set_cons_zero, List.set_cons_succ]
            refine take_run (i := 7) (v := ?vr117) rfl (by kernel_rfl) (by kernel_rfl) (by kernel_rfl) (fun _ _ _ h => h) (by rfl) ?yr117 (by assumption) ?rr117
            case yr117 => (intro w hSw; (try dsimp only at hSw); go_simp; try with_reducible rfl)
            try simp only [Act.put, List.setIfInBounds_toArray, List.set_cons_zero, List.set_cons_succ]
            refine take_run (i := 8) (v := ?vr118) rfl (by kernel_rfl) (by kernel_rfl) (by kernel_rfl) (fun _ _ _ h => h) (by rfl) ?yr118 (by assumption) ?rr118
            case yr118 => (intro w hSw; (try dsimp only at hSw); go_simp; try with_reducible rfl)
            try simp only [Act.put, List.setIfInBounds_toArray, List.set_cons_zero, List.set_cons_succ]
            refine take_run (i := 9) (v := ?vr119) rfl (by kernel_rfl) (by kernel_rfl) (by kernel_rfl) (fun _ _ _ h => h) (by rfl) ?yr119 (by assumption) ?rr119
            case yr119 => (intro w hSw; (try dsimp only at hSw); go_simp; try with_reducible rfl)
            try simp only [Act.put, List.setIfInBounds_toArray, List.set_cons_zero, List.set_cons_succ]
            refine take_run (i := 10) (v := ?vr1110) rfl (by kernel_rfl) (by kernel_rfl) (by kernel_rfl) (fun _ _ _ h => h) (by rfl) ?yr1110 (by assumption) ?rr1110
            case yr1110 => (intro w hSw; (try dsimp only at hSw); go_simp; try with_reducible rfl)
            try simp only [Act.put, List.setIfInBounds_toArray, List.set_cons_zero, List.set_cons_succ]
            refine take_run (i := 11) (v := ?vr1111) rfl (by kernel_rfl) (by kernel_rfl) (by kernel_rfl) (fun _ _ _ h => h) (by rfl) ?yr1111 (by assumption) ?rr1111
            case yr1111 => (intro w hSw; (try dsimp only at hSw); go_simp; try with_reducible rfl)
            try simp only [Act.put, List.setIfInBounds_toArray, List.set_cons_zero, List.set_cons_succ]
            refine take_call (i := 4) rfl (by kernel_rfl) (by rfl) (fun Kq hK => ?_)
            go_simp
            go_at_call 53
            refine (leafOf_any _ wf.drew).mono ?_
            rintro e w7 ⟨rfl, hb7⟩
            have hs7 := HKS.out _ (bundrew hb7)
            have p0 := hs7.1
            have p1 := hs7.2.1
            have p2 := hs7.2.2.1
            have p3 := hs7.2.2.2.1
            have p4 := hs7.2.2.2.2
            have HB7 := Lib.hid (bundrew hb7)

            clear hs7 hb7
            refine hK.out _ _ ?hr114 (fun hHeld => ?rr114)
            case hr114 => ((try dsimp only); go_keep)
            clear hK Kq
            try simp only [Act.put, List.setIfInBounds_toArray, List.set_cons_zero, List.set_cons_succ]
            refine take_call (i := 12) rfl (by kernel_rfl) (by rfl) (fun Kq hK => ?_)
            go_simp
            go_at_call 53
            refine (leafOf_any _ w7).mono ?_
            rintro e w8 ⟨rfl, hb8⟩
            have hb8 := bthen HB7.out hb8 HB7.out.size
            have hs8 := HKS.out _ hb8
            have s0 := hs8.1
            have s1 := hs8.2.1
            have s2 := hs8.2.2.1
            have s3 := hs8.2.2.2.1
            have s4 := hs8.2.2.2.2
            have hR8 := HRf.out.below hb8 HRf.out.lt
            have v0 : w8.cell? ⟨w.heap.size + 1, 0, none⟩ = some (.int .i64 0) := hR8.cell 0
            have v1 : w8.cell? ⟨w.heap.size + 1, 1, none⟩ = some (.int .i64 0) := hR8.cell 1
            have v2 : w8.cell? ⟨w.heap.size + 1, 2, none⟩ = some (.slice none 0 0) := hR8.cell 2
            have y0 := hR8.frozen 0
            have y1 := hR8.frozen 1
            have y2 := hR8.frozen 2
            have zR8 : w.heap.size + 1 < w8.heap.size := hR8.lt
            have KS8 : Hid (∀ w' : World, Kept (fun b => b = w.heap.size + 1) w8 w' → w'.cell? ⟨b0, o0, none⟩ = some (.int .i64 t.opn) ∧ w'.cell? ⟨b0, o0 + m, none⟩ = some (.int .i64 t.cls) ∧ w'.cell? ⟨g, 0, none⟩ = some (.int .i64 x.rule) ∧ w'.cell? ⟨g, 1, none⟩ = some (.int .i64 x.term) ∧ w'.cell? ⟨g, 2, none⟩ = some (.slice A6 x.kids.length c6)) := Lib.hid (fun w' k => by
              have hbw := HS'.out b0 hS0
              have zz := hb8.size
              have zg : g < w8.heap.size := Nat.lt_of_lt_of_le HGf.out zz
              exact ⟨(k.cell (p := ⟨b0, o0, none⟩) (show b0 < w8.heap.size by omega) (fun h => by have : b0 = w.heap.size + 1 := h; omega)).trans s0, (k.cell (p := ⟨b0, o0 + m, none⟩) (show b0 < w8.heap.size by omega) (fun h => by have : b0 = w.heap.size + 1 := h; omega)).trans s1,
                (k.cell (p := ⟨g, 0, none⟩) zg (fun h => by have : g = w.heap.size + 1 := h; omega)).trans s2, (k.cell (p := ⟨g, 1, none⟩) zg (fun h => by have : g = w.heap.size + 1 := h; omega)).trans s3, (k.cell (p := ⟨g, 2, none⟩) zg (fun h => by have : g = w.heap.size + 1 := h; omega)).trans s4⟩)
            have HB8 := Lib.hid (And.intro hb8 hR8)
            clear hs8 hb8 hR8
            refine hK.out _ _ ?hr1112 (fun hHeld => ?rr1112)
            case hr1112 => ((try dsimp only); go_keep)
            clear hK Kq
            try simp only [Act.put, List.setIfInBounds_toArray, List.set_cons_zero, List.set_cons_succ]
            refine take_call (i := 13) rfl (by kernel_rfl) (by rfl) (fun Kq hK => ?_)
            go_simp
            refine hK.out _ _ ?hr1113 (fun hHeld => ?rr1113)
            case hr1113 => (first | ((try dsimp only); go_keep; done) | exact KS8.out _ ((Kept.refl _ _).alloc _) | exact KS8.out _ (((((Kept.refl (fun b => b = w.heap.size + 1) w8).setCell (p := ⟨w.heap.size + 1, 0, none⟩) (.inl rfl) _).setCell (p := ⟨w.heap.size + 1, 1, none⟩) (.inl rfl) _).setCell (p := ⟨w.heap.size + 1, 2, none⟩) (.inl rfl) _)) | exact KS8.out _ (((((Kept.refl (fun b => b = w.heap.size + 1) w8).setCell (p := ⟨w.heap.size + 1, 0, none⟩) (.inl rfl) _).setCell (p := ⟨w.heap.size + 1, 1, none⟩) (.inl rfl) _).setCell (p := ⟨w.heap.size + 1, 2, none⟩) (.inl rfl) _).alloc _) | exact KS8.out _ (((((Kept.refl (fun b => b = w.heap.size + 1) w8).alloc _.setCell (p := ⟨w.heap.size + 1, 0, none⟩) (.inl rfl) _).setCell (p := ⟨w.heap.size + 1, 1, none⟩) (.inl rfl) _).setCell (p := ⟨w.heap.size + 1, 2, none⟩) (.inl rfl) _)))
            clear hK Kq
            try simp only [Act.put, List.setIfInBounds_toArray, List.set_cons_zero, List.set_cons_succ]
            refine take_run (i := 14) (v := ?vr1114) rfl (by kernel_rfl) (by kernel_rfl) (by kernel_rfl) (fun _ _ _ h => h) (by rfl) ?yr1114 (by assumption) ?rr1114
            case yr1114 => (intro w hSw; (try dsimp only at hSw); go_simp; try with_reducible rfl)
            try simp only [Act.put, List.setIfInBounds_toArray, List.set_cons_zero, List.set_cons_succ]
            refine take_call (i := 15) rfl (by kernel_rfl) (by rfl) (fun Kq hK => ?_)
            go_simp
            refine hK.out _ _ ?hr1115 (fun hHeld => ?rr1115)
            case hr1115 => (first | ((try dsimp only); go_keep; done) | exact KS8.out _ ((Kept.refl _ _).alloc _) | exact KS8.out _ (((((Kept.refl (fun b => b = w.heap.size + 1) w8).setCell (p := ⟨w.heap.size + 1, 0, none⟩) (.inl rfl) _).setCell (p := ⟨w.heap.size + 1, 1, none⟩) (.inl rfl) _).setCell (p := ⟨w.heap.size + 1, 2, none⟩) (.inl rfl) _)) | exact KS8.out _ (((((Kept.refl (fun b => b = w.heap.size + 1) w8).setCell (p := ⟨w.heap.size + 1, 0, none⟩) (.inl rfl) _).setCell (p := ⟨w.heap.size + 1, 1, none⟩) (.inl rfl) _).setCell (p := ⟨w.heap.size + 1, 2, none⟩) (.inl rfl) _).alloc _) | exact KS8.out _ (((((Kept.refl (fun b => b = w.heap.size + 1) w8).alloc _.setCell (p := ⟨w.heap.size + 1, 0, none⟩) (.inl rfl) _).setCell (p := ⟨w.heap.size + 1, 1, none⟩) (.inl rfl) _).setCell (p := ⟨w.heap.size + 1, 2, none⟩) (.inl rfl) _)))
            clear hK Kq
            try simp only [Act.put, List.setIfInBounds_toArray, List.set_cons_zero, List.set_cons_succ]
            refine take_run (i := 16) (v := ?vr1116) rfl (by kernel_rfl) (by kernel_rfl) (by kernel_rfl) (fun _ _ _ h => h) (by rfl) ?yr1116 (by assumption) ?rr1116
            case yr1116 => (intro w hSw; (try dsimp only at hSw); go_simp; try with_reducible rfl)
            try simp only [Act.put, List.setIfInBounds_toArray, List.set_cons_zero, List.set_cons_succ]
            refine wpAnyH_done (by kernel_rfl) ?_ _
            refine NoPanic.normal ?_
            go_wp2_with fail
            generalize hwF : World.alloc _ _ = wF
            obtain ⟨⟨j0, j1, j2⟩, hN, hz, hKF, hbF⟩ := tr_fin (bthen HBwf.out HB8.out.1 HBwf.out.size) HB8.out.2 (Nat.le_succ _) hwF.symm
            have z8 := HB8.out.1.size
            have zf := HXb.out.size
            have hEF : Els wF (fun b => w.heap.size ≤ b ∧ b < wF.heap.size) [leafT t.opn, x, leafT t.cls] (some ⟨w8.heap.size, 0, none⟩) :=
              els_trio (cs := [_, _, _]) (ds := [_, _, _]) (fs := [_, _, _]) hN rfl (rd_leaf H64.out.2.2.1) ((HXo.out.below HB8.out.1 (Nat.le_refl _)).rd hKF (fun b hb => .inl (by have : b = w.heap.size + 1 := hb; omega)) (by omega)) (rd_leaf H64.out.2.2.2) ⟨by omega, by omega⟩
            have hin := inner_eq HM.out.1 HM.out.2.2.1 (by rw [← HM.out.2.1]; exact HM.out.2.2.2)
            rw [← HM.out.2.1] at hin
            have hLv : Lv t k ⟨1, 0, [leafT t.opn, x, leafT t.cls]⟩ l := by rw [hin]; exact Lv.brk k HE.out x _ HXt.out
            clear hwF hin
            exact bodyPost_ret (v := .tuple #[.agg #[.int .i64 1, .int .i64 0, .slice (some ⟨w8.heap.size, 0, none⟩) 3 3], .bool true]) (by simp [results, Try.results31, go_sem, j0, j1, j2]) rfl ⟨true, ⟨1, 0, [leafT t.opn, x, leafT t.cls]⟩, _, 3, rfl, ⟨i64_1, i64_0, Nat.le_refl _, by omega, hEF⟩, ⟨fun _ => hLv, fun h => by cases h⟩, hbF⟩
    case rest =>
    obtain ⟨rfl, hnb, hb1⟩ := hcut
    obtain ⟨w2, hw2⟩ : ∃ w2 : World, w2 = wc := ⟨_, rfl⟩
    subst hw2
    have HNB := Lib.hid hnb
    have HT2 := Lib.hid (HTc.out.below hb1 HTc.out.lt)
    have HR2 := Lib.hid (HRc.out.below hb1 HRc.out.lt)
    have HA2 := Lib.hid (HAc.out.below hb1)
    have HL2 := Lib.hid (HLc.out.below hb1)
    have HB2 := Lib.hid (bthen HBwc.out hb1 HBwc.out.size)
    clear t0 t1 t2 t3 t4 zT zR hb1 hnb
    clear HTc HRc HAc HLc HBwc
    clear HW1 HB1
    refine ‹∀ (a : Act) (w : World), Code.wp Try.prog _ _ a w → _› _ _ ?_
    refine wp_code (by kernel_rfl) (treeTail_any t A c S HV.out H64.out hlc hc l hl9 IH.out B d k S' w w2 hk hld hd HS.out HS'.out HNA.out HNB.out HT2.out HR2.out HA2.out HL2.out HB2.out _ _ _ _ _ _ _ _ _ _ _ _ _ _ _ _ _ _ _ _ _ _ _ _ _ _ _ _ _ _ _ _ _ _ _ _ _ _ _ _ _ _ _ _ _ _ _ _ _ _ _ _ _ _ _ _ _ _ _ _ _ _ _ _ _ _ _ _ _ _ _ _ _ _ _ _ _ _ _ _ _ _ _ _ _ _ _ _ _ _ _ _ _ _ _ _ _ _ _ _ _ _ _ _ _ _ _ _ _ _ _ _ _ _ _ _ _ _ _ _ _ _ _ _ _ _ _ _ _ _ _ _ _ _ _ _ _ _ _ _ _ _ _ _ _ _ _ _ _ _ _ _ _ _ _ _ _ _ _ _ _ _ _ _ _ _ _ _ _ _ _ _ _ _ _ _ _ _ _ _ _ _ _ _ _ _ _ _ _)
end Go.Proofs.Ytpcjfgikicpioaa
