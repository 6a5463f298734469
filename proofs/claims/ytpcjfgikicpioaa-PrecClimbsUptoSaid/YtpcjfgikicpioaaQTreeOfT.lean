/- The loops of the reference's TreeOf: over the levels, the operators, the places. -/
import Derived.Test.YtpcjfgikicpioaaQTreeOfE
import Derived.Test.YtpcjfgikicpioaaQp1
import Derived.Deep.DeepCutAuto
import Derived.Deep.QuietTactic
import Derived.BigQuiet
import Derived.Deep.RegionHeld3
namespace Go.Proofs.Ytpcjfgikicpioaa
open Go.RowKit
set_option linter.unusedVariables false

/-- The outer loop. -/
def ToL (t : Table) (k : Nat) (l : List Int) (w : World) (r i : Value) (wr : World) : Prop := ∃ j : Nat, j ≤ t.levels.length ∧ i = .int .i64 j ∧ r = .int .i64 ((baseN t + preN t j : Nat) : Int) ∧ NoLev t k l j ∧ Below w.heap.size w wr
/-- The loop over a level's operators. -/
def ToK (t : Table) (k : Nat) (l : List Int) (j : Nat) (lv : Level) (w : World) (i : Value) (wr : World) : Prop := ∃ m : Nat, m ≤ lv.ops.length ∧ i = .int .i64 m ∧ (∀ o ∈ lv.ops.take m, ∀ a, ¬ Fit t k l j lv o a) ∧ Below w.heap.size w wr
/-- The loop over the places. -/
def ToA (t : Table) (k : Nat) (l : List Int) (j : Nat) (lv : Level) (o : Int) (w : World) (i : Value) (wr : World) : Prop := ∃ m : Nat, m ≤ l.length ∧ i = .int .i64 m ∧ (∀ a, a < m → ¬ Fit t k l j lv o a) ∧ Below w.heap.size w wr
def brB (t : Table) (l : List Int) : Bool := decide (2 < l.length ∧ l[0]? = some t.opn ∧ l[l.length - 1]? = some t.cls)
def skB (k : Nat) (l : List Int) (j : Nat) (lv : Level) (o : Int) (a : Nat) : Bool := decide (l[a]? ≠ some o ∨ j < k ∨ (lv.kind = 3 ∧ 0 < a))
theorem sk_true {t : Table} {k : Nat} {l : List Int} {j : Nat} {lv : Level} {o : Int} {a : Nat} (h : skB k l j lv o a = true) : ¬ Fit t k l j lv o a := by
  unfold skB at h
  rw [decide_eq_true_eq] at h
  rintro ⟨h1, h2, h3, _⟩
  rcases h with h | h | ⟨h, h'⟩
  · exact h h1
  · omega
  · have := h3 h; omega
theorem sk_false {k : Nat} {l : List Int} {j : Nat} {lv : Level} {o : Int} {a : Nat} (h : skB k l j lv o a = false) : l[a]? = some o ∧ k ≤ j ∧ (lv.kind = 3 → a = 0) := by
  unfold skB at h
  rw [decide_eq_false_iff_not] at h
  refine ⟨?_, by omega, fun h3 => ?_⟩
  · by_cases e : l[a]? = some o
    · exact e
    · exact absurd (.inl e) h
  · by_cases e : 0 < a
    · exact absurd (.inr (.inr ⟨h3, e⟩)) h
    · omega
def oneB (t : Table) (l : List Int) : Bool := decide (l = [t.atom])

/-- The region that a code begins with. -/
def firstReg : Code → Option Nat
  | .region n _ _ => some n
  | .seq a _ => firstReg a
  | .scope c => firstReg c
  | .block _ c => firstReg c
  | _ => none
def findReg (n : Nat) : Code → Option Code
  | .seq a b => if firstReg a == some n then some (.seq a b) else match findReg n a with
    | some c => some c
    | none => findReg n b
  | .cond _ a b => match findReg n a with
    | some c => some c
    | none => findReg n b
  | .scope c => findReg n c
  | _ => none
noncomputable def treeTail : Code := ((Try.f31.body.bind (findReg 12)).getD .skip)
theorem wp_code {P : Program} {c c' : Code} {Q : Exit → Act → World → Prop} {a : Act} {w : World} (h : c = c') (h' : Code.wp P c' Q a w) : Code.wp P c Q a w := h ▸ h'

set_option maxRecDepth 1000000 in
set_option maxHeartbeats 8000000 in
theorem treeTail_any (t : Table) (A : Option Addr) (c : Nat) (S : Nat → Prop) (hv : Valid t) (h64 : I64 t.terms ∧ I64 t.atom ∧ I64 t.opn ∧ I64 t.cls) (hlc : t.levels.length ≤ c) (hc : c ≤ 9223372036854775807) (l : List Int) (hl9 : l.length ≤ 1000000)
    (hIH : ∀ (l' : List Int), l'.length < l.length → ∀ (B : Option Addr) (d k : Nat) (S' : Nat → Prop) (w : World), k ≤ 1000 → l'.length ≤ d → d ≤ 9223372036854775807 →
    Els w S t.levels A → (∀ b, S b → b < w.heap.size) → Els w S' l' B → (∀ b, S' b → b < w.heap.size) →
    Calls Try.prog 31 #[.agg #[.int .i64 t.terms, .int .i64 t.atom, .int .i64 t.opn, .int .i64 t.cls, .slice A t.levels.length c], .slice B l'.length d, .int .i64 (k : Int)] w (RetTr t k l' w))
    (B : Option Addr) (d k : Nat) (S' : Nat → Prop) (w w2 : World) (hk : k ≤ 1000) (hld : l.length ≤ d) (hd : d ≤ 9223372036854775807) (hS : ∀ b, S b → b < w.heap.size) (hS' : ∀ b, S' b → b < w.heap.size)
    (hNA : l ≠ [t.atom]) (hNB : brk t = true → ∀ u x, l = t.opn :: (u ++ [t.cls]) → ¬ Lv t 0 x u)
    (hT2 : Blk' w2 w.heap.size 24 #[.int .i64 t.terms, .int .i64 t.atom, .int .i64 t.opn, .int .i64 t.cls, .slice A t.levels.length c]) (hR2 : Blk' w2 (w.heap.size + 1) 28 #[.int .i64 0, .int .i64 0, .slice none 0 0])
    (hA2 : Els w2 S t.levels A) (hL2 : Els w2 S' l B) (hB2 : Below w.heap.size w w2)
    (y4 y5 y7 y11 y12 y13 y14 y15 y16 y17 y18 y19 y20 y21 y22 y23 y24 y25 y26 y27 y28 y29 y30 y31 y32 y33 y34 y35 y36 y37 y38 y39 y40 y41 y42 y43 y44 y45 y46 y47 y48 y49 y50 y51 y52 y53 y54 y55 y56 y57 y58 y59 y60 y61 y62 y63 y64 y65 y66 y67 y68 y69 y70 y71 y72 y73 y74 y75 y76 y77 y78 y79 y80 y81 y82 y83 y84 y85 y86 y87 y88 y89 y90 y91 y92 y93 y94 y95 y96 y97 y98 y99 y100 y101 y102 y103 y104 y105 y106 y107 y108 y109 y110 y111 y112 y113 y114 y115 y116 y117 y118 y119 y120 y121 y122 y123 y124 y125 y126 y127 y128 y129 y130 y131 y132 y133 y134 y135 y136 y137 y138 y139 y140 y141 y142 y143 y144 y145 y146 y147 y148 y149 y150 y151 y152 y153 y154 y155 y156 y157 y158 y159 y160 y161 y162 y163 y164 y165 y166 y167 y168 y169 y170 y171 y172 y173 y174 y175 y176 y177 y178 y179 y180 y181 y182 y183 y184 y185 y186 y187 y188 y189 y190 y191 y192 y193 y194 y195 y196 : Value) :
    Code.wp Try.prog treeTail (bodyPost Try.prog Try.f31 (RetTr t k l w)) ⟨#[.agg #[.int .i64 t.terms, .int .i64 t.atom, .int .i64 t.opn, .int .i64 t.cls, .slice A t.levels.length c], .slice B l.length d, .int .i64 (k : Int), .pointer (some ⟨w.heap.size, 0, none⟩), y4, y5, .pointer (some ⟨w.heap.size + 1, 0, none⟩), y7, .func (.func 53) #[] #[], .int .i64 (l.length : Int), .int .i64 ((baseN t : Nat) : Int), y11, y12, y13, y14, y15, y16, y17, y18, y19, y20, y21, y22, y23, y24, y25, y26, y27, y28, y29, y30, y31, y32, y33, y34, y35, y36, y37, y38, y39, y40, y41, y42, y43, y44, y45, y46, y47, y48, y49, y50, y51, y52, y53, y54, y55, y56, y57, y58, y59, y60, y61, y62, y63, y64, y65, y66, y67, y68, y69, y70, y71, y72, y73, y74, y75, y76, y77, y78, y79, y80, y81, y82, y83, y84, y85, y86, y87, y88, y89, y90, y91, y92, y93, y94, y95, y96, y97, y98, y99, y100, y101, y102, y103, y104, y105, y106, y107, y108, y109, y110, y111, y112, y113, y114, y115, y116, y117, y118, y119, y120, y121, y122, y123, y124, y125, y126, y127, y128, y129, y130, y131, y132, y133, y134, y135, y136, y137, y138, y139, y140, y141, y142, y143, y144, y145, y146, y147, y148, y149, y150, y151, y152, y153, y154, y155, y156, y157, y158, y159, y160, y161, y162, y163, y164, y165, y166, y167, y168, y169, y170, y171, y172, y173, y174, y175, y176, y177, y178, y179, y180, y181, y182, y183, y184, y185, y186, y187, y188, y189, y190, y191, y192, y193, y194, y195, y196], []⟩ w2 := by
  conv => arg 2; whnf
  have IH := Lib.hid hIH
  have HV := Lib.hid hv
  have H64 := Lib.hid h64
  have HS := Lib.hid hS
  have HS' := Lib.hid hS'
  have HNA := Lib.hid hNA
  have HNB := Lib.hid hNB
  have HT2 := Lib.hid hT2
  have HR2 := Lib.hid hR2
  have HA2 := Lib.hid hA2
  have HL2 := Lib.hid hL2
  have HB2 := Lib.hid hB2
  have t4 : w2.cell? ⟨w.heap.size, 4, none⟩ = some (.slice A t.levels.length c) := hT2.cell 4
  have zT : w.heap.size < w2.heap.size := hT2.lt
  have zR : w.heap.size + 1 < w2.heap.size := hR2.lt
  clear hIH hv h64 hS hS' hNA hNB hT2 hR2 hA2 hL2 hB2
  go_wp2_with fail
  go_loopw [10, 94] (fun r i wr => ToL t k l w2 r i wr) (fun _ i _ => t.levels.length - (intOf i).toNat)
  case atStart => exact ⟨0, Nat.zero_le _, rfl, by rw [pre_zero]; rfl, fun i' h => absurd h (Nat.not_lt_zero _), Below.refl _ _⟩
  case round =>
    obtain ⟨wo, hwo⟩ : ∃ wo : World, wo = wr := ⟨_, rfl⟩
    subst hwo
    obtain ⟨j, hj, rfl, rfl, hno, hb⟩ := hrel
    have HNo := Lib.hid hno
    have HBo := Lib.hid hb
    clear hno hb t4
    have zo := HBo.out.size
    have hl6 := HV.out.levels
    have hpn : baseN t + preN t j ≤ 10 := by
      have h1 := pre_le t j
      have h2 := HV.out.ops
      unfold opsL at h1
      have h3 : baseN t ≤ 2 := by unfold baseN; split <;> omega
      omega
    by_cases hlt : j < t.levels.length
    · obtain ⟨lv, hlv⟩ := get_some hlt
      obtain ⟨bl, ol, Ao, co, rfl, hSl, hbl, hki, hoc, hco, hEo, lc0, lc1⟩ := (HA2.out.below HBo.out).level hlv
      obtain ⟨wv, hwv⟩ : ∃ wv : World, wv = wo.alloc (.cells #[.int .i64 lv.kind, .slice Ao lv.ops.length co] 79) := ⟨_, rfl⟩
      have hbv : Below wo.heap.size wo wv := by rw [hwv]; exact (Below.refl _ _).alloc (Nat.le_refl _) _
      have hVv : Blk' wv wo.heap.size 79 #[.int .i64 lv.kind, .slice Ao lv.ops.length co] := by rw [hwv]; exact Blk'.new _ _ _
      have HWv := Lib.hid hwv
      have HBv := Lib.hid hbv
      have HVv := Lib.hid hVv
      have HLv := Lib.hid (And.intro hlv (And.intro hki (hEo.below hbv)))
      have hkd := HV.out.kinds lv (List.mem_of_getElem? hlv)
      have j0 : (0 : Int) ≤ (j : Int) := by omega
      have j1 : (j : Int) < (t.levels.length : Int) := by omega
      have hol : lv.ops.length ≤ 8 := by
        have h2 := HV.out.ops
        have h3 := pre_succ HLv.out.1
        have h4 := pre_le t (j + 1)
        unfold opsL at h4
        omega
      have v0 : wv.cell? ⟨wo.heap.size, 0, none⟩ = some (.int .i64 lv.kind) := hVv.cell 0
      have v1 : wv.cell? ⟨wo.heap.size, 1, none⟩ = some (.slice Ao lv.ops.length co) := hVv.cell 1
      have zv : wo.heap.size < wv.heap.size := hVv.lt
      have HKd := Lib.hid hkd
      clear hwv hbv hVv hlv hki hEo hkd
      go_upto_region 15 with (fail)
      rw [← HWv.out]
      go_wp2_with fail
      go_loopw [102] (fun i wr => ToK t k l j lv wv i wr) (fun i _ => lv.ops.length - (intOf i).toNat)
      case atStart => exact ⟨0, Nat.zero_le _, rfl, fun o ho => by simp at ho, Below.refl _ _⟩
      case round =>
        obtain ⟨wq, hwq⟩ : ∃ wq : World, wq = wr := ⟨_, rfl⟩
        subst hwq
        obtain ⟨m, hm, rfl, hnq, hbq⟩ := hrel
        have HNq := Lib.hid hnq
        have HBq := Lib.hid hbq
        clear hnq hbq v0 v1
        have zq := HBq.out.size
        by_cases hltm : m < lv.ops.length
        · obtain ⟨o, ho⟩ := get_some hltm
          obtain ⟨bo, oo, rfl, hSo, hbo, hoi, hoc0⟩ := (HLv.out.2.2.below HBq.out).int ho
          have m0 : (0 : Int) ≤ (m : Int) := by omega
          have m1 : (m : Int) < (lv.ops.length : Int) := by omega
          have HOi := Lib.hid (And.intro hoi (List.mem_of_getElem? ho))
          have HOm := Lib.hid ho
          have HRu := Lib.hid (rul_pos HV.out HLv.out.1 ho)
          have HRl := Lib.hid (rulOf_i64 (t := t) (by have := HV.out.ops; unfold opsL; omega) o)
          have hl0 : (0 : Int) ≤ (l.length : Int) := by omega
          clear ho hoi
          go_wp2_with fail
          go_loopw [109] (fun i wr => ToA t k l j lv o wq i wr) (fun i _ => l.length - (intOf i).toNat)
          case atStart => exact ⟨0, Nat.zero_le _, rfl, fun a h => absurd h (Nat.not_lt_zero _), Below.refl _ _⟩
          case round =>
            obtain ⟨wi, hwi⟩ : ∃ wi : World, wi = wr := ⟨_, rfl⟩
            subst hwi
            obtain ⟨a, ha, rfl, hno3, hb3⟩ := hrel
            have HN3 := Lib.hid hno3
            have HB3 := Lib.hid hb3
            clear hno3 hb3
            have zi := HB3.out.size
            by_cases hlta : a < l.length
            · obtain ⟨z, hz⟩ := get_some hlta
              have HBvi := Lib.hid (bthen HBq.out HB3.out HBq.out.size)
              have HB2i := Lib.hid (bthen (bthen HBo.out HBv.out zo) HBvi.out (by omega))
              have HBwi := Lib.hid (bthen HB2.out HB2i.out HB2.out.size)
              have HTi := Lib.hid (HT2.out.below HB2i.out HT2.out.lt)
              have HRi := Lib.hid (HR2.out.below HB2i.out HR2.out.lt)
              have HLi := Lib.hid (HL2.out.below HB2i.out)
              have HAi := Lib.hid (HA2.out.below HB2i.out)
              have HVi := Lib.hid (HVv.out.below HBvi.out HVv.out.lt)
              obtain ⟨bw, ow, rfl, hSw, hbw, hzi, hzc⟩ := HLi.out.int hz
              have a0 : (0 : Int) ≤ (a : Int) := by omega
              have a1 : (a : Int) < (l.length : Int) := by omega
              have vi0 : wi.cell? ⟨wo.heap.size, 0, none⟩ = some (.int .i64 lv.kind) := HVi.out.cell 0
              have zvi : wo.heap.size < wi.heap.size := HVi.out.lt
              have HZ := Lib.hid hz
              clear hz hzi
              go_upto_region 21 with (fail)
              go_cut [131] (fun v wx => v = .bool (skB k l j lv o a) ∧ wi = wx)
              case first =>
                by_cases e1 : z = o
                · have E1 : (z != o) = false := by simp [e1]
                  by_cases e2 : j < k
                  · have E2 : decide (j < k) = true := decide_eq_true (by omega)
                    have HR := Lib.hid (show skB k l j lv o a = true by simp [skB, e2])
                    clear e1 e2
                    go_wp2
                    go_meet
                    exact ⟨by rw [HR.out], rfl⟩
                  · have E2 : decide (j < k) = false := decide_eq_false (by omega)
                    by_cases e3 : lv.kind = 3
                    · have E3 : (lv.kind == 3) = true := by simp [e3]
                      by_cases e4 : 0 < a
                      · have E4 : decide (0 < a) = true := decide_eq_true (by omega)
                        have HR := Lib.hid (show skB k l j lv o a = true by simp [skB, e3, e4])
                        clear e1 e2 e3 e4
                        go_wp2
                        go_meet
                        exact ⟨by rw [HR.out], rfl⟩
                      · have E4 : decide (0 < a) = false := decide_eq_false (by omega)
                        have HR := Lib.hid (show skB k l j lv o a = false by simp [skB, HZ.out, e1, e2, e4])
                        clear e1 e2 e3 e4
                        go_wp2
                        go_meet
                        exact ⟨by rw [HR.out], rfl⟩
                    · have E3 : (lv.kind == 3) = false := by simp [e3]
                      have HR := Lib.hid (show skB k l j lv o a = false by simp [skB, HZ.out, e1, e2, e3])
                      clear e1 e2 e3
                      go_wp2
                      go_meet
                      exact ⟨by rw [HR.out], rfl⟩
                · have E1 : (z != o) = true := by simp [e1]
                  have HR := Lib.hid (show skB k l j lv o a = true by simp [skB, HZ.out, e1])
                  clear e1
                  go_wp2
                  go_meet
                  exact ⟨by rw [HR.out], rfl⟩
              case rest =>
              obtain ⟨rfl, rfl⟩ := hcut
              obtain ⟨sk, hsk⟩ : ∃ sk : Bool, sk = skB k l j lv o a := ⟨_, rfl⟩
              rw [← hsk]
              cases sk
              case true =>
                have HNf := Lib.hid (sk_true (t := t) hsk.symm)
                clear hsk
                go_wp2_with fail
                go_roundw
                case rel => exact ⟨a + 1, hlta, by go_num, fun a' h' => (by rcases Nat.lt_succ_iff_lt_or_eq.1 h' with h | rfl; exact HN3.out a' h; exact HNf.out), HB3.out⟩
                case measure => simp [intOf]; omega
              case false =>
                have HS4 := Lib.hid (sk_false hsk.symm)
                clear hsk
                have hwj : IntKind.i64.wrap ((j : Int) + 1) = (j : Int) + 1 := IntWalk.i64_in _ (by omega)
                obtain ⟨lk, hlk⟩ : ∃ lk : Nat, lk = if lv.kind = 1 then j else j + 1 := ⟨_, rfl⟩
                obtain ⟨rk, hrk⟩ : ∃ rk : Nat, rk = if 2 ≤ lv.kind then j else j + 1 := ⟨_, rfl⟩
                have hlk9 : lk ≤ 1000 := by rw [hlk]; split <;> omega
                have hrk9 : rk ≤ 1000 := by rw [hrk]; split <;> omega
                have HLK := Lib.hid hlk
                have HRK := Lib.hid hrk
                clear hlk hrk
                go_upto_if 138 with (fail)
                go_cut [18] (fun v wx => v = .int .i64 (lk : Int) ∧ wi = wx)
                case first =>
                  by_cases e1 : lv.kind = 1
                  · have E1 : (lv.kind == 1) = true := by simp [e1]
                    have HE := Lib.hid (show lk = j by rw [HLK.out, if_pos e1])
                    clear e1
                    go_wp2
                    go_meet
                    exact ⟨by rw [HE.out], rfl⟩
                  · have E1 : (lv.kind == 1) = false := by simp [e1]
                    have HE := Lib.hid (show lk = j + 1 by rw [HLK.out, if_neg e1])
                    clear e1
                    go_wp2
                    go_meet
                    exact ⟨by rw [HE.out]; rfl, rfl⟩
                case rest =>
                obtain ⟨rfl, rfl⟩ := hcut
                go_upto_if 142 with (fail)
                go_cut [19] (fun v wx => v = .int .i64 (rk : Int) ∧ wi = wx)
                case first =>
                  by_cases e1 : 2 ≤ lv.kind
                  · have E1 : decide (2 ≤ lv.kind) = true := decide_eq_true e1
                    have HE := Lib.hid (show rk = j by rw [HRK.out, if_pos e1])
                    go_wp2
                    go_meet
                    exact ⟨by rw [HE.out], rfl⟩
                  · have E1 : decide (2 ≤ lv.kind) = false := decide_eq_false e1
                    have HE := Lib.hid (show rk = j + 1 by rw [HRK.out, if_neg e1])
                    have e2 : (2 ≤ lv.kind) = False := by simp; omega
                    have e3 : lv.kind < 2 := by omega
                    go_wp2
                    go_meet
                    exact ⟨by rw [HE.out]; rfl, rfl⟩
                case rest =>
                obtain ⟨rfl, rfl⟩ := hcut
                have t0 : wi.cell? ⟨w.heap.size, 0, none⟩ = some (.int .i64 t.terms) := HTi.out.cell 0
                have t1 : wi.cell? ⟨w.heap.size, 1, none⟩ = some (.int .i64 t.atom) := HTi.out.cell 1
                have t2 : wi.cell? ⟨w.heap.size, 2, none⟩ = some (.int .i64 t.opn) := HTi.out.cell 2
                have t3 : wi.cell? ⟨w.heap.size, 3, none⟩ = some (.int .i64 t.cls) := HTi.out.cell 3
                have t4 : wi.cell? ⟨w.heap.size, 4, none⟩ = some (.slice (some ⟨bl, ol, none⟩) t.levels.length c) := HTi.out.cell 4
                have zTi : w.heap.size < wi.heap.size := HTi.out.lt
                have zRi : w.heap.size + 1 < wi.heap.size := HRi.out.lt
                have hwa : IntKind.i64.wrap ((a : Int) + 1) = (a : Int) + 1 := IntWalk.i64_in _ (by omega)
                have ha3 : (a : Int) + 1 ≤ (l.length : Int) := by omega
                have ha5 : (0 : Int) ≤ (a : Int) + 1 := by omega
                have ha4 : (a : Int) + 1 ≤ (d : Int) := by omega
                have hlen : (l.drop (a + 1)).length = l.length - (a + 1) := by rw [List.length_drop]
                have HI := Lib.hid (fun (B' : Option Addr) (w' : World) (hE : ∀ w' : World, Below wi.heap.size wi w' → Els w' S' (l.drop (a + 1)) B') (hb : Below wi.heap.size wi w') => (by
                  have h := IH.out (l.drop (a + 1)) (by omega) B' (d - (a + 1)) rk S' w' (by omega) (by omega) (by omega) (HAi.out.below hb) (fun b h => by have := HS.out b h; have := hb.size; omega) (hE w' hb) (fun b h => by have := HS'.out b h; have := hb.size; omega)
                  rw [hlen] at h
                  exact h : Calls Try.prog 31 #[.agg #[.int .i64 t.terms, .int .i64 t.atom, .int .i64 t.opn, .int .i64 t.cls, .slice (some ⟨bl, ol, none⟩) t.levels.length c], .slice B' (l.length - (a + 1)) (d - (a + 1)), .int .i64 (rk : Int)] w' (RetTr t rk (l.drop (a + 1)) w')))
                clear hlen
                go_upto_region 27 with (fail)
                go_cut [20, 21] (fun p v wx => Got t rk (l.drop (a + 1)) wi p v wx)
                case first =>
                  by_cases hcap : d = a + 1
                  · have hce : (d = a + 1) = True := by simp [hcap]
                    have HD := Lib.hid (show l.drop (a + 1) = [] from List.drop_of_length_le (by omega))
                    clear hcap
                    refine wp_region_noPanic ?_
                    refine wp_region_held_drew (S := (fun w' => w'.cell? ⟨w.heap.size, 0, none⟩ = some (.int .i64 t.terms) ∧ w'.cell? ⟨w.heap.size, 1, none⟩ = some (.int .i64 t.atom) ∧ w'.cell? ⟨w.heap.size, 2, none⟩ = some (.int .i64 t.opn) ∧ w'.cell? ⟨w.heap.size, 3, none⟩ = some (.int .i64 t.cls) ∧ w'.cell? ⟨w.heap.size, 4, none⟩ = some (.slice (some ⟨bl, ol, none⟩) t.levels.length c))) (by kernel_rfl) ?hk1 (fun hHeld => ?bk1)
                    case hk1 => ((try dsimp only); go_keep)
                    refine take_run (i := 0) (v := ?vk10) rfl (by kernel_rfl) (by kernel_rfl) (by kernel_rfl) (fun _ _ _ h => h) (by rfl) ?yk10 (by assumption) ?rk10
                    case yk10 => (intro w hSw; (try dsimp only at hSw); go_simp; try with_reducible rfl)
                    try simp only [Act.put, List.setIfInBounds_toArray, List.set_cons_zero, List.set_cons_succ]
                    refine take_run (i := 1) (v := ?vk11) rfl (by kernel_rfl) (by kernel_rfl) (by kernel_rfl) (fun _ _ _ h => h) (by rfl) ?yk11 (by assumption) ?rk11
                    case yk11 => (intro w hSw; (try dsimp only at hSw); go_simp; try with_reducible rfl)
                    try simp only [Act.put, List.setIfInBounds_toArray, List.set_cons_zero, List.set_cons_succ]
                    refine take_run (i := 2) (v := ?vk12) rfl (by kernel_rfl) (by kernel_rfl) (by kernel_rfl) (fun _ _ _ h => h) (by rfl) ?yk12 (by assumption) ?rk12
                    case yk12 => (intro w hSw; (try dsimp only at hSw); go_simp; try with_reducible rfl)
                    try simp only [Act.put, List.setIfInBounds_toArray, List.set_cons_zero, List.set_cons_succ]
                    refine take_run (i := 3) (v := ?vk13) rfl (by kernel_rfl) (by kernel_rfl) (by kernel_rfl) (fun _ _ _ h => h) (by rfl) ?yk13 (by assumption) ?rk13
                    case yk13 => (intro w hSw; (try dsimp only at hSw); go_simp; try with_reducible rfl)
                    try simp only [Act.put, List.setIfInBounds_toArray, List.set_cons_zero, List.set_cons_succ]
                    refine take_run (i := 4) (v := ?vk14) rfl (by kernel_rfl) (by kernel_rfl) (by kernel_rfl) (fun _ _ _ h => h) (by rfl) ?yk14 (by assumption) ?rk14
                    case yk14 => (intro w hSw; (try dsimp only at hSw); go_simp; try with_reducible rfl)
                    try simp only [Act.put, List.setIfInBounds_toArray, List.set_cons_zero, List.set_cons_succ]
                    refine take_run (i := 5) (v := ?vk15) rfl (by kernel_rfl) (by kernel_rfl) (by kernel_rfl) (fun _ _ _ h => h) (by rfl) ?yk15 (by assumption) ?rk15
                    case yk15 => (intro w hSw; (try dsimp only at hSw); go_simp; try with_reducible rfl)
                    try simp only [Act.put, List.setIfInBounds_toArray, List.set_cons_zero, List.set_cons_succ]
                    refine take_two (i := 6) (j := 10) rfl rfl (by kernel_rfl) (by rfl) (by rfl) (fun Kq hK => ?onek16) (fun Kq hK => ?twok16)
                    case onek16 =>
                      go_simp
                      go_at_call 31
                      refine (HI.out _ _ (fun w' hb => by rw [HD.out]; exact fun h => absurd rfl h) (below_drew _)).mono ?_
                      rintro e w6 ⟨b, x, A6, c6, rfl, ho, ha, hb6⟩
                      have hbe := bundrew hb6
                      have zz : wi.heap.size < w6.heap.size + 1 := Nat.lt_succ_of_le hbe.size
                      have hT6 := HTi.out.below hbe HTi.out.lt
                      have HO6 := Lib.hid (And.intro ho (And.intro ha hb6))
                      have z6 := hbe.size
                      have t0' : w6.cell? ⟨w.heap.size, 0, none⟩ = some (.int .i64 t.terms) := hT6.cell 0
                      have t1' : w6.cell? ⟨w.heap.size, 1, none⟩ = some (.int .i64 t.atom) := hT6.cell 1
                      have t2' : w6.cell? ⟨w.heap.size, 2, none⟩ = some (.int .i64 t.opn) := hT6.cell 2
                      have t3' : w6.cell? ⟨w.heap.size, 3, none⟩ = some (.int .i64 t.cls) := hT6.cell 3
                      have t4' : w6.cell? ⟨w.heap.size, 4, none⟩ = some (.slice (some ⟨bl, ol, none⟩) t.levels.length c) := hT6.cell 4
                      have KS6 := Lib.hid (fun (w' : World) (k : Kept (fun b => wi.heap.size ≤ b) w6 w') => (have h := hT6.kept k (Nat.not_le_of_lt HTi.out.lt); And.intro (h.cell 0) (And.intro (h.cell 1) (And.intro (h.cell 2) (And.intro (h.cell 3) (h.cell 4))))))
                      clear ho ha hb6 hbe hT6
                      refine hK.out _ _ ?hk1a6 (fun hHeld => ?rk1a6)
                      case hk1a6 => ((try dsimp only); go_keep)
                      clear hK Kq
                      try simp only [Act.put, List.setIfInBounds_toArray, List.set_cons_zero, List.set_cons_succ]
                      refine take_run (i := 7) (v := ?vk1a7) rfl (by kernel_rfl) (by kernel_rfl) (by kernel_rfl) (fun _ _ _ h => h) (by rfl) ?yk1a7 (by assumption) ?rk1a7
                      case yk1a7 => (intro w hSw; (try dsimp only at hSw); go_simp; try with_reducible rfl)
                      try simp only [Act.put, List.setIfInBounds_toArray, List.set_cons_zero, List.set_cons_succ]
                      refine take_run (i := 8) (v := ?vk1a8) rfl (by kernel_rfl) (by kernel_rfl) (by kernel_rfl) (fun _ _ _ h => h) (by rfl) ?yk1a8 (by assumption) ?rk1a8
                      case yk1a8 => (intro w hSw; (try dsimp only at hSw); go_simp; try with_reducible rfl)
                      try simp only [Act.put, List.setIfInBounds_toArray, List.set_cons_zero, List.set_cons_succ]
                      refine take_run (i := 9) (v := ?vk1a9) rfl (by kernel_rfl) (by kernel_rfl) (by kernel_rfl) (fun _ _ _ h => h) (by rfl) ?yk1a9 (by assumption) ?rk1a9
                      case yk1a9 => (intro w hSw; (try dsimp only at hSw); go_simp; try with_reducible rfl)
                      try simp only [Act.put, List.setIfInBounds_toArray, List.set_cons_zero, List.set_cons_succ]
                      refine take_call (i := 10) rfl (by kernel_rfl) (by rfl) (fun Kq hK => ?_)
                      go_simp
                      refine hK.out _ _ ?hk1a10 (fun hHeld => ?rk1a10)
                      case hk1a10 => (first | ((try dsimp only); go_keep; done) | exact KS6.out _ ((Kept.refl _ _).alloc _))
                      clear hK Kq
                      try simp only [Act.put, List.setIfInBounds_toArray, List.set_cons_zero, List.set_cons_succ]
                      refine take_call (i := 11) rfl (by kernel_rfl) (by rfl) (fun Kq hK => ?_)
                      go_simp
                      refine hK.out _ _ ?hk1a11 (fun hHeld => ?rk1a11)
                      case hk1a11 => (first | ((try dsimp only); go_keep; done) | exact KS6.out _ ((Kept.refl _ _).alloc _) | exact KS6.out _ ((((Kept.refl (fun b => wi.heap.size ≤ b) w6).setCell (p := ⟨wi.heap.size, 0, none⟩) (.inl (Nat.le_refl _)) _).setCell (p := ⟨wi.heap.size, 1, none⟩) (.inl (Nat.le_refl _)) _).setCell (p := ⟨wi.heap.size, 2, none⟩) (.inl (Nat.le_refl _)) _))
                      clear hK Kq
                      try simp only [Act.put, List.setIfInBounds_toArray, List.set_cons_zero, List.set_cons_succ]
                      refine take_run (i := 12) (v := ?vk1a12) rfl (by kernel_rfl) (by kernel_rfl) (by kernel_rfl) (fun _ _ _ h => h) (by rfl) ?yk1a12 (by assumption) ?rk1a12
                      case yk1a12 => (intro w hSw; (try dsimp only at hSw); go_simp; try with_reducible rfl)
                      try simp only [Act.put, List.setIfInBounds_toArray, List.set_cons_zero, List.set_cons_succ]
                      refine wpAnyH_done (by kernel_rfl) ?_ _
                      refine NoPanic.normal ?_
                      go_wp2_with fail
                      go_meet
                      exact got_a HO6.out.1 HO6.out.2.1 (bundrew HO6.out.2.2) rfl
                    case twok16 =>
                      go_simp
                      refine hK.out _ _ ?hk1b10 (fun hHeld => ?rk1b10)
                      case hk1b10 => ((try dsimp only); go_keep)
                      clear hK Kq
                      try simp only [Act.put, List.setIfInBounds_toArray, List.set_cons_zero, List.set_cons_succ]
                      refine take_call (i := 6) rfl (by kernel_rfl) (by rfl) (fun Kq hK => ?_)
                      go_simp
                      go_at_call 31
                      refine (HI.out _ _ (fun w' hb => by rw [HD.out]; exact fun h => absurd rfl h) ((below_drew _).alloc (Nat.le_refl _) _)).mono ?_
                      rintro e w6 ⟨b, x, A6, c6, rfl, ho, ha, hb6⟩
                      have hbe := bthen ((below_drew wi).alloc (Nat.le_refl _) _) hb6 ((below_drew wi).alloc (Nat.le_refl _) _).size
                      have hG6 : Blk' w6 wi.heap.size 28 #[.int .i64 0, .int .i64 0, .slice none 0 0] := (Blk'.new wi.drew 28 #[.int .i64 0, .int .i64 0, .slice none 0 0]).below hb6 (Blk'.new wi.drew _ _).lt
                      have g0 : w6.cell? ⟨wi.heap.size, 0, none⟩ = some (.int .i64 0) := hG6.cell 0
                      have g1 : w6.cell? ⟨wi.heap.size, 1, none⟩ = some (.int .i64 0) := hG6.cell 1
                      have g2 : w6.cell? ⟨wi.heap.size, 2, none⟩ = some (.slice none 0 0) := hG6.cell 2
                      have y0 : w6.frozen? ⟨wi.heap.size, 0, none⟩ = false := hG6.frozen 0
                      have y1 : w6.frozen? ⟨wi.heap.size, 1, none⟩ = false := hG6.frozen 1
                      have y2 : w6.frozen? ⟨wi.heap.size, 2, none⟩ = false := hG6.frozen 2
                      have zz : wi.heap.size < w6.heap.size := hG6.lt
                      clear hG6
                      have hT6 := HTi.out.below hbe HTi.out.lt
                      have HO6 := Lib.hid (And.intro ho (And.intro ha hb6))
                      have z6 := hbe.size
                      have t0' : w6.cell? ⟨w.heap.size, 0, none⟩ = some (.int .i64 t.terms) := hT6.cell 0
                      have t1' : w6.cell? ⟨w.heap.size, 1, none⟩ = some (.int .i64 t.atom) := hT6.cell 1
                      have t2' : w6.cell? ⟨w.heap.size, 2, none⟩ = some (.int .i64 t.opn) := hT6.cell 2
                      have t3' : w6.cell? ⟨w.heap.size, 3, none⟩ = some (.int .i64 t.cls) := hT6.cell 3
                      have t4' : w6.cell? ⟨w.heap.size, 4, none⟩ = some (.slice (some ⟨bl, ol, none⟩) t.levels.length c) := hT6.cell 4
                      have KS6 := Lib.hid (fun (w' : World) (k : Kept (fun b => wi.heap.size ≤ b) w6 w') => (have h := hT6.kept k (Nat.not_le_of_lt HTi.out.lt); And.intro (h.cell 0) (And.intro (h.cell 1) (And.intro (h.cell 2) (And.intro (h.cell 3) (h.cell 4))))))
                      clear ho ha hb6 hbe hT6
                      refine hK.out _ _ ?hk1c (fun hHeld => ?rk1c)
                      case hk1c => ((try dsimp only); go_keep)
                      clear hK Kq
                      try simp only [Act.put, List.setIfInBounds_toArray, List.set_cons_zero, List.set_cons_succ]
                      refine take_run (i := 7) (v := ?vk1b7) rfl (by kernel_rfl) (by kernel_rfl) (by kernel_rfl) (fun _ _ _ h => h) (by rfl) ?yk1b7 (by assumption) ?rk1b7
                      case yk1b7 => (intro w hSw; (try dsimp only at hSw); go_simp; try with_reducible rfl)
                      try simp only [Act.put, List.setIfInBounds_toArray, List.set_cons_zero, List.set_cons_succ]
                      refine take_run (i := 8) (v := ?vk1b8) rfl (by kernel_rfl) (by kernel_rfl) (by kernel_rfl) (fun _ _ _ h => h) (by rfl) ?yk1b8 (by assumption) ?rk1b8
                      case yk1b8 => (intro w hSw; (try dsimp only at hSw); go_simp; try with_reducible rfl)
                      try simp only [Act.put, List.setIfInBounds_toArray, List.set_cons_zero, List.set_cons_succ]
                      refine take_run (i := 9) (v := ?vk1b9) rfl (by kernel_rfl) (by kernel_rfl) (by kernel_rfl) (fun _ _ _ h => h) (by rfl) ?yk1b9 (by assumption) ?rk1b9
                      case yk1b9 => (intro w hSw; (try dsimp only at hSw); go_simp; try with_reducible rfl)
                      try simp only [Act.put, List.setIfInBounds_toArray, List.set_cons_zero, List.set_cons_succ]
                      refine take_call (i := 11) rfl (by kernel_rfl) (by rfl) (fun Kq hK => ?_)
                      go_simp
                      refine hK.out _ _ ?hk1b11 (fun hHeld => ?rk1b11)
                      case hk1b11 => (first | ((try dsimp only); go_keep; done) | exact KS6.out _ ((Kept.refl _ _).alloc _) | exact KS6.out _ ((((Kept.refl (fun b => wi.heap.size ≤ b) w6).setCell (p := ⟨wi.heap.size, 0, none⟩) (.inl (Nat.le_refl _)) _).setCell (p := ⟨wi.heap.size, 1, none⟩) (.inl (Nat.le_refl _)) _).setCell (p := ⟨wi.heap.size, 2, none⟩) (.inl (Nat.le_refl _)) _))
                      clear hK Kq
                      try simp only [Act.put, List.setIfInBounds_toArray, List.set_cons_zero, List.set_cons_succ]
                      refine take_run (i := 12) (v := ?vk1b12) rfl (by kernel_rfl) (by kernel_rfl) (by kernel_rfl) (fun _ _ _ h => h) (by rfl) ?yk1b12 (by assumption) ?rk1b12
                      case yk1b12 => (intro w hSw; (try dsimp only at hSw); go_simp; try with_reducible rfl)
                      try simp only [Act.put, List.setIfInBounds_toArray, List.set_cons_zero, List.set_cons_succ]
                      refine wpAnyH_done (by kernel_rfl) ?_ _
                      refine NoPanic.normal ?_
                      go_wp2_with fail
                      go_meet
                      exact got_c HO6.out.1 HO6.out.2.1 HO6.out.2.2 rfl
                  · have hce : (d = a + 1) = False := by simp [hcap]
                    clear hcap
                    refine wp_region_noPanic ?_
                    refine wp_region_held_drew (S := (fun w' => w'.cell? ⟨w.heap.size, 0, none⟩ = some (.int .i64 t.terms) ∧ w'.cell? ⟨w.heap.size, 1, none⟩ = some (.int .i64 t.atom) ∧ w'.cell? ⟨w.heap.size, 2, none⟩ = some (.int .i64 t.opn) ∧ w'.cell? ⟨w.heap.size, 3, none⟩ = some (.int .i64 t.cls) ∧ w'.cell? ⟨w.heap.size, 4, none⟩ = some (.slice (some ⟨bl, ol, none⟩) t.levels.length c))) (by kernel_rfl) ?hk2 (fun hHeld => ?bk2)
                    case hk2 => ((try dsimp only); go_keep)
                    refine take_run (i := 0) (v := ?vk20) rfl (by kernel_rfl) (by kernel_rfl) (by kernel_rfl) (fun _ _ _ h => h) (by rfl) ?yk20 (by assumption) ?rk20
                    case yk20 => (intro w hSw; (try dsimp only at hSw); go_simp; try with_reducible rfl)
                    try simp only [Act.put, List.setIfInBounds_toArray, List.set_cons_zero, List.set_cons_succ]
                    refine take_run (i := 1) (v := ?vk21) rfl (by kernel_rfl) (by kernel_rfl) (by kernel_rfl) (fun _ _ _ h => h) (by rfl) ?yk21 (by assumption) ?rk21
                    case yk21 => (intro w hSw; (try dsimp only at hSw); go_simp; try with_reducible rfl)
                    try simp only [Act.put, List.setIfInBounds_toArray, List.set_cons_zero, List.set_cons_succ]
                    refine take_run (i := 2) (v := ?vk22) rfl (by kernel_rfl) (by kernel_rfl) (by kernel_rfl) (fun _ _ _ h => h) (by rfl) ?yk22 (by assumption) ?rk22
                    case yk22 => (intro w hSw; (try dsimp only at hSw); go_simp; try with_reducible rfl)
                    try simp only [Act.put, List.setIfInBounds_toArray, List.set_cons_zero, List.set_cons_succ]
                    refine take_run (i := 3) (v := ?vk23) rfl (by kernel_rfl) (by kernel_rfl) (by kernel_rfl) (fun _ _ _ h => h) (by rfl) ?yk23 (by assumption) ?rk23
                    case yk23 => (intro w hSw; (try dsimp only at hSw); go_simp; try with_reducible rfl)
                    try simp only [Act.put, List.setIfInBounds_toArray, List.set_cons_zero, List.set_cons_succ]
                    refine take_run (i := 4) (v := ?vk24) rfl (by kernel_rfl) (by kernel_rfl) (by kernel_rfl) (fun _ _ _ h => h) (by rfl) ?yk24 (by assumption) ?rk24
                    case yk24 => (intro w hSw; (try dsimp only at hSw); go_simp; try with_reducible rfl)
                    try simp only [Act.put, List.setIfInBounds_toArray, List.set_cons_zero, List.set_cons_succ]
                    refine take_run (i := 5) (v := ?vk25) rfl (by kernel_rfl) (by kernel_rfl) (by kernel_rfl) (fun _ _ _ h => h) (by rfl) ?yk25 (by assumption) ?rk25
                    case yk25 => (intro w hSw; (try dsimp only at hSw); go_simp; try with_reducible rfl)
                    try simp only [Act.put, List.setIfInBounds_toArray, List.set_cons_zero, List.set_cons_succ]
                    refine take_two (i := 6) (j := 10) rfl rfl (by kernel_rfl) (by rfl) (by rfl) (fun Kq hK => ?onek26) (fun Kq hK => ?twok26)
                    case onek26 =>
                      go_simp
                      go_at_call 31
                      refine (HI.out _ _ (fun w' hb => dropI (HLi.out.below hb) (a + 1)) (below_drew _)).mono ?_
                      rintro e w6 ⟨b, x, A6, c6, rfl, ho, ha, hb6⟩
                      have hbe := bundrew hb6
                      have zz : wi.heap.size < w6.heap.size + 1 := Nat.lt_succ_of_le hbe.size
                      have hT6 := HTi.out.below hbe HTi.out.lt
                      have HO6 := Lib.hid (And.intro ho (And.intro ha hb6))
                      have z6 := hbe.size
                      have t0' : w6.cell? ⟨w.heap.size, 0, none⟩ = some (.int .i64 t.terms) := hT6.cell 0
                      have t1' : w6.cell? ⟨w.heap.size, 1, none⟩ = some (.int .i64 t.atom) := hT6.cell 1
                      have t2' : w6.cell? ⟨w.heap.size, 2, none⟩ = some (.int .i64 t.opn) := hT6.cell 2
                      have t3' : w6.cell? ⟨w.heap.size, 3, none⟩ = some (.int .i64 t.cls) := hT6.cell 3
                      have t4' : w6.cell? ⟨w.heap.size, 4, none⟩ = some (.slice (some ⟨bl, ol, none⟩) t.levels.length c) := hT6.cell 4
                      have KS6 := Lib.hid (fun (w' : World) (k : Kept (fun b => wi.heap.size ≤ b) w6 w') => (have h := hT6.kept k (Nat.not_le_of_lt HTi.out.lt); And.intro (h.cell 0) (And.intro (h.cell 1) (And.intro (h.cell 2) (And.intro (h.cell 3) (h.cell 4))))))
                      clear ho ha hb6 hbe hT6
                      refine hK.out _ _ ?hk2a6 (fun hHeld => ?rk2a6)
                      case hk2a6 => ((try dsimp only); go_keep)
                      clear hK Kq
                      try simp only [Act.put, List.setIfInBounds_toArray, List.set_cons_zero, List.set_cons_succ]
                      refine take_run (i := 7) (v := ?vk2a7) rfl (by kernel_rfl) (by kernel_rfl) (by kernel_rfl) (fun _ _ _ h => h) (by rfl) ?yk2a7 (by assumption) ?rk2a7
                      case yk2a7 => (intro w hSw; (try dsimp only at hSw); go_simp; try with_reducible rfl)
                      try simp only [Act.put, List.setIfInBounds_toArray, List.set_cons_zero, List.set_cons_succ]
                      refine take_run (i := 8) (v := ?vk2a8) rfl (by kernel_rfl) (by kernel_rfl) (by kernel_rfl) (fun _ _ _ h => h) (by rfl) ?yk2a8 (by assumption) ?rk2a8
                      case yk2a8 => (intro w hSw; (try dsimp only at hSw); go_simp; try with_reducible rfl)
                      try simp only [Act.put, List.setIfInBounds_toArray, List.set_cons_zero, List.set_cons_succ]
                      refine take_run (i := 9) (v := ?vk2a9) rfl (by kernel_rfl) (by kernel_rfl) (by kernel_rfl) (fun _ _ _ h => h) (by rfl) ?yk2a9 (by assumption) ?rk2a9
                      case yk2a9 => (intro w hSw; (try dsimp only at hSw); go_simp; try with_reducible rfl)
                      try simp only [Act.put, List.setIfInBounds_toArray, List.set_cons_zero, List.set_cons_succ]
                      refine take_call (i := 10) rfl (by kernel_rfl) (by rfl) (fun Kq hK => ?_)
                      go_simp
                      refine hK.out _ _ ?hk2a10 (fun hHeld => ?rk2a10)
                      case hk2a10 => (first | ((try dsimp only); go_keep; done) | exact KS6.out _ ((Kept.refl _ _).alloc _))
                      clear hK Kq
                      try simp only [Act.put, List.setIfInBounds_toArray, List.set_cons_zero, List.set_cons_succ]
                      refine take_call (i := 11) rfl (by kernel_rfl) (by rfl) (fun Kq hK => ?_)
                      go_simp
                      refine hK.out _ _ ?hk2a11 (fun hHeld => ?rk2a11)
                      case hk2a11 => (first | ((try dsimp only); go_keep; done) | exact KS6.out _ ((Kept.refl _ _).alloc _) | exact KS6.out _ ((((Kept.refl (fun b => wi.heap.size ≤ b) w6).setCell (p := ⟨wi.heap.size, 0, none⟩) (.inl (Nat.le_refl _)) _).setCell (p := ⟨wi.heap.size, 1, none⟩) (.inl (Nat.le_refl _)) _).setCell (p := ⟨wi.heap.size, 2, none⟩) (.inl (Nat.le_refl _)) _))
                      clear hK Kq
                      try simp only [Act.put, List.setIfInBounds_toArray, List.set_cons_zero, List.set_cons_succ]
                      refine take_run (i := 12) (v := ?vk2a12) rfl (by kernel_rfl) (by kernel_rfl) (by kernel_rfl) (fun _ _ _ h => h) (by rfl) ?yk2a12 (by assumption) ?rk2a12
                      case yk2a12 => (intro w hSw; (try dsimp only at hSw); go_simp; try with_reducible rfl)
                      try simp only [Act.put, List.setIfInBounds_toArray, List.set_cons_zero, List.set_cons_succ]
                      refine wpAnyH_done (by kernel_rfl) ?_ _
                      refine NoPanic.normal ?_
                      go_wp2_with fail
                      go_meet
                      exact got_a HO6.out.1 HO6.out.2.1 (bundrew HO6.out.2.2) rfl
                    case twok26 =>
                      go_simp
                      refine hK.out _ _ ?hk2b10 (fun hHeld => ?rk2b10)
                      case hk2b10 => ((try dsimp only); go_keep)
                      clear hK Kq
                      try simp only [Act.put, List.setIfInBounds_toArray, List.set_cons_zero, List.set_cons_succ]
                      refine take_call (i := 6) rfl (by kernel_rfl) (by rfl) (fun Kq hK => ?_)
                      go_simp
                      go_at_call 31
                      refine (HI.out _ _ (fun w' hb => dropI (HLi.out.below hb) (a + 1)) ((below_drew _).alloc (Nat.le_refl _) _)).mono ?_
                      rintro e w6 ⟨b, x, A6, c6, rfl, ho, ha, hb6⟩
                      have hbe := bthen ((below_drew wi).alloc (Nat.le_refl _) _) hb6 ((below_drew wi).alloc (Nat.le_refl _) _).size
                      have hG6 : Blk' w6 wi.heap.size 28 #[.int .i64 0, .int .i64 0, .slice none 0 0] := (Blk'.new wi.drew 28 #[.int .i64 0, .int .i64 0, .slice none 0 0]).below hb6 (Blk'.new wi.drew _ _).lt
                      have g0 : w6.cell? ⟨wi.heap.size, 0, none⟩ = some (.int .i64 0) := hG6.cell 0
                      have g1 : w6.cell? ⟨wi.heap.size, 1, none⟩ = some (.int .i64 0) := hG6.cell 1
                      have g2 : w6.cell? ⟨wi.heap.size, 2, none⟩ = some (.slice none 0 0) := hG6.cell 2
                      have y0 : w6.frozen? ⟨wi.heap.size, 0, none⟩ = false := hG6.frozen 0
                      have y1 : w6.frozen? ⟨wi.heap.size, 1, none⟩ = false := hG6.frozen 1
                      have y2 : w6.frozen? ⟨wi.heap.size, 2, none⟩ = false := hG6.frozen 2
                      have zz : wi.heap.size < w6.heap.size := hG6.lt
                      clear hG6
                      have hT6 := HTi.out.below hbe HTi.out.lt
                      have HO6 := Lib.hid (And.intro ho (And.intro ha hb6))
                      have z6 := hbe.size
                      have t0' : w6.cell? ⟨w.heap.size, 0, none⟩ = some (.int .i64 t.terms) := hT6.cell 0
                      have t1' : w6.cell? ⟨w.heap.size, 1, none⟩ = some (.int .i64 t.atom) := hT6.cell 1
                      have t2' : w6.cell? ⟨w.heap.size, 2, none⟩ = some (.int .i64 t.opn) := hT6.cell 2
                      have t3' : w6.cell? ⟨w.heap.size, 3, none⟩ = some (.int .i64 t.cls) := hT6.cell 3
                      have t4' : w6.cell? ⟨w.heap.size, 4, none⟩ = some (.slice (some ⟨bl, ol, none⟩) t.levels.length c) := hT6.cell 4
                      have KS6 := Lib.hid (fun (w' : World) (k : Kept (fun b => wi.heap.size ≤ b) w6 w') => (have h := hT6.kept k (Nat.not_le_of_lt HTi.out.lt); And.intro (h.cell 0) (And.intro (h.cell 1) (And.intro (h.cell 2) (And.intro (h.cell 3) (h.cell 4))))))
                      clear ho ha hb6 hbe hT6
                      refine hK.out _ _ ?hk2c (fun hHeld => ?rk2c)
                      case hk2c => ((try dsimp only); go_keep)
                      clear hK Kq
                      try simp only [Act.put, List.setIfInBounds_toArray, List.set_cons_zero, List.set_cons_succ]
                      refine take_run (i := 7) (v := ?vk2b7) rfl (by kernel_rfl) (by kernel_rfl) (by kernel_rfl) (fun _ _ _ h => h) (by rfl) ?yk2b7 (by assumption) ?rk2b7
                      case yk2b7 => (intro w hSw; (try dsimp only at hSw); go_simp; try with_reducible rfl)
                      try simp only [Act.put, List.setIfInBounds_toArray, List.set_cons_zero, List.set_cons_succ]
                      refine take_run (i := 8) (v := ?vk2b8) rfl (by kernel_rfl) (by kernel_rfl) (by kernel_rfl) (fun _ _ _ h => h) (by rfl) ?yk2b8 (by assumption) ?rk2b8
                      case yk2b8 => (intro w hSw; (try dsimp only at hSw); go_simp; try with_reducible rfl)
                      try simp only [Act.put, List.setIfInBounds_toArray, List.set_cons_zero, List.set_cons_succ]
                      refine take_run (i := 9) (v := ?vk2b9) rfl (by kernel_rfl) (by kernel_rfl) (by kernel_rfl) (fun _ _ _ h => h) (by rfl) ?yk2b9 (by assumption) ?rk2b9
                      case yk2b9 => (intro w hSw; (try dsimp only at hSw); go_simp; try with_reducible rfl)
                      try simp only [Act.put, List.setIfInBounds_toArray, List.set_cons_zero, List.set_cons_succ]
                      refine take_call (i := 11) rfl (by kernel_rfl) (by rfl) (fun Kq hK => ?_)
                      go_simp
                      refine hK.out _ _ ?hk2b11 (fun hHeld => ?rk2b11)
                      case hk2b11 => (first | ((try dsimp only); go_keep; done) | exact KS6.out _ ((Kept.refl _ _).alloc _) | exact KS6.out _ ((((Kept.refl (fun b => wi.heap.size ≤ b) w6).setCell (p := ⟨wi.heap.size, 0, none⟩) (.inl (Nat.le_refl _)) _).setCell (p := ⟨wi.heap.size, 1, none⟩) (.inl (Nat.le_refl _)) _).setCell (p := ⟨wi.heap.size, 2, none⟩) (.inl (Nat.le_refl _)) _))
                      clear hK Kq
                      try simp only [Act.put, List.setIfInBounds_toArray, List.set_cons_zero, List.set_cons_succ]
                      refine take_run (i := 12) (v := ?vk2b12) rfl (by kernel_rfl) (by kernel_rfl) (by kernel_rfl) (fun _ _ _ h => h) (by rfl) ?yk2b12 (by assumption) ?rk2b12
                      case yk2b12 => (intro w hSw; (try dsimp only at hSw); go_simp; try with_reducible rfl)
                      try simp only [Act.put, List.setIfInBounds_toArray, List.set_cons_zero, List.set_cons_succ]
                      refine wpAnyH_done (by kernel_rfl) ?_ _
                      refine NoPanic.normal ?_
                      go_wp2_with fail
                      go_meet
                      exact got_c HO6.out.1 HO6.out.2.1 HO6.out.2.2 rfl
                case rest =>
                obtain ⟨b, y, A6, c6, g, rfl, rfl, hg, hG, ho, hat, hb9⟩ := hcut
                obtain ⟨wm, hwm⟩ : ∃ wm : World, wm = wc := ⟨_, rfl⟩
                subst hwm
                cases b
                case false =>
                  have HNf := Lib.hid (hat.2 rfl)
                  have HB9 := Lib.hid (bthen HB3.out hb9 HB3.out.size)
                  clear hG ho hat hb9
                  go_wp2_with fail
                  go_roundw
                  case rel => exact ⟨a + 1, hlta, by go_num, fun a' h' => (by
                    rcases Nat.lt_succ_iff_lt_or_eq.1 h' with h | rfl
                    · exact HN3.out a' h
                    · rintro ⟨_, _, _, ⟨y, hy⟩, _⟩
                      rw [← HRK.out] at hy
                      exact HNf.out y hy), HB9.out⟩
                  case measure => simp [intOf]; omega
                case true =>
                have HY := Lib.hid (And.intro (hat.1 rfl) ho)
                have hb9' := hb9
                have HBm := Lib.hid hb9
                have zm := hb9.size
                have HGg := Lib.hid hG
                have HTm := Lib.hid (HTi.out.below hb9 HTi.out.lt)
                have HRm := Lib.hid (HRi.out.below hb9 HRi.out.lt)
                have HVm := Lib.hid (HVi.out.below hb9 HVi.out.lt)
                have HAm := Lib.hid (HAi.out.below hb9)
                have HLm := Lib.hid (HLi.out.below hb9)
                have HBwm := Lib.hid (bthen HBwi.out hb9 HBwi.out.size)
                have HB3m := Lib.hid (bthen HB3.out hb9 HB3.out.size)
                have gm0 : wm.cell? ⟨g, 0, none⟩ = some (.int .i64 y.rule) := hG.cell 0
                have gm1 : wm.cell? ⟨g, 1, none⟩ = some (.int .i64 y.term) := hG.cell 1
                have gm2 : wm.cell? ⟨g, 2, none⟩ = some (.slice A6 y.kids.length c6) := hG.cell 2
                have vm0 : wm.cell? ⟨wo.heap.size, 0, none⟩ = some (.int .i64 lv.kind) := HVm.out.cell 0
                have zgm : g < wm.heap.size := hG.lt
                have zRg : w.heap.size + 1 < g := Nat.lt_of_lt_of_le zRi hg
                have hwr : IntKind.i64.wrap ((baseN t : Int) + (preN t j : Int) + (m : Int)) = rulOf t o := by
                  rw [HRu.out, IntWalk.i64_in _ (by omega)]; push_cast; omega
                clear t0 t1 t2 t3 t4 zTi zRi hG ho hat hb9 hb9' HTi HRi HVi HAi HLi HBwi HI vi0 zvi
                by_cases h3 : lv.kind = 3
                · have E3 : (lv.kind == 3) = true := by simp [h3]
                  have HH3 := Lib.hid h3
                  clear h3
                  have HRi := HRm
                  have HBwi := HBwm
                  have HKS : Hid (∀ w' : World, Below wm.heap.size wm w' → w'.cell? ⟨g, 0, none⟩ = some (.int .i64 y.rule) ∧ w'.cell? ⟨g, 1, none⟩ = some (.int .i64 y.term) ∧ w'.cell? ⟨g, 2, none⟩ = some (.slice A6 y.kids.length c6)) := Lib.hid (fun w' hb => by
                    have h1 := HGg.out.below hb HGg.out.lt
                    exact ⟨h1.cell 0, h1.cell 1, h1.cell 2⟩)
                  go_upto_region 30 with (fail)
                  refine wp_region_noPanic ?_
                  refine wp_region_held_drew (S := (fun w' => w'.cell? ⟨g, 0, none⟩ = some (.int .i64 y.rule) ∧ w'.cell? ⟨g, 1, none⟩ = some (.int .i64 y.term) ∧ w'.cell? ⟨g, 2, none⟩ = some (.slice A6 y.kids.length c6))) (by kernel_rfl) ?hn30 (fun hHeld => ?bn30)
                  case hn30 => ((try dsimp only); go_keep)
                  refine take_run (i := 0) (v := ?vn300) rfl (by kernel_rfl) (by kernel_rfl) (by kernel_rfl) (fun _ _ _ h => h) (by rfl) ?yn300 (by assumption) ?rn300
                  case yn300 => (intro w hSw; (try dsimp only at hSw); go_simp; try with_reducible rfl)
                  try simp only [Act.put, List.setIfInBounds_toArray, List.set_cons_zero, List.set_cons_succ]
                  refine take_run (i := 1) (v := ?vn301) rfl (by kernel_rfl) (by kernel_rfl) (by kernel_rfl) (fun _ _ _ h => h) (by rfl) ?yn301 (by assumption) ?rn301
                  case yn301 => (intro w hSw; (try dsimp only at hSw); go_simp; try with_reducible rfl)
                  try simp only [Act.put, List.setIfInBounds_toArray, List.set_cons_zero, List.set_cons_succ]
                  refine take_run (i := 2) (v := ?vn302) rfl (by kernel_rfl) (by kernel_rfl) (by kernel_rfl) (fun _ _ _ h => h) (by rfl) ?yn302 (by assumption) ?rn302
                  case yn302 => (intro w hSw; (try dsimp only at hSw); go_simp; try with_reducible rfl)
                  try simp only [Act.put, List.setIfInBounds_toArray, List.set_cons_zero, List.set_cons_succ]
                  refine take_run (i := 3) (v := ?vn303) rfl (by kernel_rfl) (by kernel_rfl) (by kernel_rfl) (fun _ _ _ h => h) (by rfl) ?yn303 (by assumption) ?rn303
                  case yn303 => (intro w hSw; (try dsimp only at hSw); go_simp; try with_reducible rfl)
                  try simp only [Act.put, List.setIfInBounds_toArray, List.set_cons_zero, List.set_cons_succ]
                  refine take_run (i := 4) (v := ?vn304) rfl (by kernel_rfl) (by kernel_rfl) (by kernel_rfl) (fun _ _ _ h => h) (by rfl) ?yn304 (by assumption) ?rn304
                  case yn304 => (intro w hSw; (try dsimp only at hSw); go_simp; try with_reducible rfl)
                  try simp only [Act.put, List.setIfInBounds_toArray, List.set_cons_zero, List.set_cons_succ]
                  refine take_run (i := 6) (v := ?vn306) rfl (by kernel_rfl) (by kernel_rfl) (by kernel_rfl) (fun _ _ _ h => h) (by rfl) ?yn306 (by assumption) ?rn306
                  case yn306 => (intro w hSw; (try dsimp only at hSw); go_simp; try with_reducible rfl)
                  try simp only [Act.put, List.setIfInBounds_toArray, List.set_cons_zero, List.set_cons_succ]
                  refine take_call (i := 5) rfl (by kernel_rfl) (by rfl) (fun Kq hK => ?_)
                  go_simp
                  go_at_call 53
                  refine (leafOf_any _ wm.drew).mono ?_
                  rintro e w8 ⟨rfl, hb8⟩
                  have hb8 := bundrew hb8
                  have hs8 : w8.cell? ⟨g, 0, none⟩ = some (.int .i64 y.rule) ∧ w8.cell? ⟨g, 1, none⟩ = some (.int .i64 y.term) ∧ w8.cell? ⟨g, 2, none⟩ = some (.slice A6 y.kids.length c6) := HKS.out _ hb8
                  have s0 := hs8.1
                  have s1 := hs8.2.1
                  have s2 := hs8.2.2
                  have hR8 := HRi.out.below hb8 HRi.out.lt
                  have v0 : w8.cell? ⟨w.heap.size + 1, 0, none⟩ = some (.int .i64 0) := hR8.cell 0
                  have v1 : w8.cell? ⟨w.heap.size + 1, 1, none⟩ = some (.int .i64 0) := hR8.cell 1
                  have v2 : w8.cell? ⟨w.heap.size + 1, 2, none⟩ = some (.slice none 0 0) := hR8.cell 2
                  have y0 := hR8.frozen 0
                  have y1 := hR8.frozen 1
                  have y2 := hR8.frozen 2
                  have zR8 : w.heap.size + 1 < w8.heap.size := hR8.lt
                  have KS8 : Hid (∀ w' : World, Kept (fun b => b = w.heap.size + 1) w8 w' → w'.cell? ⟨g, 0, none⟩ = some (.int .i64 y.rule) ∧ w'.cell? ⟨g, 1, none⟩ = some (.int .i64 y.term) ∧ w'.cell? ⟨g, 2, none⟩ = some (.slice A6 y.kids.length c6)) := Lib.hid (fun w' k => ⟨(k.cell (p := ⟨g, 0, none⟩) (Nat.lt_of_lt_of_le HGg.out.lt hb8.size) (fun h => by have : g = w.heap.size + 1 := h; omega)).trans (hs8.1), (k.cell (p := ⟨g, 1, none⟩) (Nat.lt_of_lt_of_le HGg.out.lt hb8.size) (fun h => by have : g = w.heap.size + 1 := h; omega)).trans (hs8.2.1), (k.cell (p := ⟨g, 2, none⟩) (Nat.lt_of_lt_of_le HGg.out.lt hb8.size) (fun h => by have : g = w.heap.size + 1 := h; omega)).trans (hs8.2.2)⟩)
                  have HB8 := Lib.hid (And.intro hb8 hR8)
                  clear hs8 hb8 hR8
                  refine hK.out _ _ ?hn305 (fun hHeld => ?rn305)
                  case hn305 => ((try dsimp only); go_keep)
                  clear hK Kq
                  try simp only [Act.put, List.setIfInBounds_toArray, List.set_cons_zero, List.set_cons_succ]
                  refine take_call (i := 7) rfl (by kernel_rfl) (by rfl) (fun Kq hK => ?_)
                  go_simp
                  refine hK.out _ _ ?hn307 (fun hHeld => ?rn307)
                  case hn307 => (first | ((try dsimp only); go_keep; done) | exact KS8.out _ ((Kept.refl _ _).alloc _) | exact KS8.out _ (((((Kept.refl (fun b => b = w.heap.size + 1) w8).setCell (p := ⟨w.heap.size + 1, 0, none⟩) (.inl rfl) _).setCell (p := ⟨w.heap.size + 1, 1, none⟩) (.inl rfl) _).setCell (p := ⟨w.heap.size + 1, 2, none⟩) (.inl rfl) _)) | exact KS8.out _ (((((Kept.refl (fun b => b = w.heap.size + 1) w8).setCell (p := ⟨w.heap.size + 1, 0, none⟩) (.inl rfl) _).setCell (p := ⟨w.heap.size + 1, 1, none⟩) (.inl rfl) _).setCell (p := ⟨w.heap.size + 1, 2, none⟩) (.inl rfl) _).alloc _) | exact KS8.out _ (((((Kept.refl (fun b => b = w.heap.size + 1) w8).alloc _.setCell (p := ⟨w.heap.size + 1, 0, none⟩) (.inl rfl) _).setCell (p := ⟨w.heap.size + 1, 1, none⟩) (.inl rfl) _).setCell (p := ⟨w.heap.size + 1, 2, none⟩) (.inl rfl) _)))
                  clear hK Kq
                  try simp only [Act.put, List.setIfInBounds_toArray, List.set_cons_zero, List.set_cons_succ]
                  refine take_run (i := 8) (v := ?vn308) rfl (by kernel_rfl) (by kernel_rfl) (by kernel_rfl) (fun _ _ _ h => h) (by rfl) ?yn308 (by assumption) ?rn308
                  case yn308 => (intro w hSw; (try dsimp only at hSw); go_simp; try with_reducible rfl)
                  try simp only [Act.put, List.setIfInBounds_toArray, List.set_cons_zero, List.set_cons_succ]
                  refine take_call (i := 9) rfl (by kernel_rfl) (by rfl) (fun Kq hK => ?_)
                  go_simp
                  refine hK.out _ _ ?hn309 (fun hHeld => ?rn309)
                  case hn309 => (first | ((try dsimp only); go_keep; done) | exact KS8.out _ ((Kept.refl _ _).alloc _) | exact KS8.out _ (((((Kept.refl (fun b => b = w.heap.size + 1) w8).setCell (p := ⟨w.heap.size + 1, 0, none⟩) (.inl rfl) _).setCell (p := ⟨w.heap.size + 1, 1, none⟩) (.inl rfl) _).setCell (p := ⟨w.heap.size + 1, 2, none⟩) (.inl rfl) _)) | exact KS8.out _ (((((Kept.refl (fun b => b = w.heap.size + 1) w8).setCell (p := ⟨w.heap.size + 1, 0, none⟩) (.inl rfl) _).setCell (p := ⟨w.heap.size + 1, 1, none⟩) (.inl rfl) _).setCell (p := ⟨w.heap.size + 1, 2, none⟩) (.inl rfl) _).alloc _) | exact KS8.out _ (((((Kept.refl (fun b => b = w.heap.size + 1) w8).alloc _.setCell (p := ⟨w.heap.size + 1, 0, none⟩) (.inl rfl) _).setCell (p := ⟨w.heap.size + 1, 1, none⟩) (.inl rfl) _).setCell (p := ⟨w.heap.size + 1, 2, none⟩) (.inl rfl) _)))
                  clear hK Kq
                  try simp only [Act.put, List.setIfInBounds_toArray, List.set_cons_zero, List.set_cons_succ]
                  refine take_run (i := 10) (v := ?vn3010) rfl (by kernel_rfl) (by kernel_rfl) (by kernel_rfl) (fun _ _ _ h => h) (by rfl) ?yn3010 (by assumption) ?rn3010
                  case yn3010 => (intro w hSw; (try dsimp only at hSw); go_simp; try with_reducible rfl)
                  try simp only [Act.put, List.setIfInBounds_toArray, List.set_cons_zero, List.set_cons_succ]
                  refine wpAnyH_done (by kernel_rfl) ?_ _
                  refine NoPanic.normal ?_
                  go_wp2_with fail
                  generalize hwF : World.alloc _ _ = wF
                  obtain ⟨⟨j0, j1, j2⟩, hN, hz, hKF, hbF⟩ := tr_fin (bthen HBwi.out HB8.out.1 HBwi.out.size) HB8.out.2 (Nat.le_succ _) hwF.symm
                  have z8 := HB8.out.1.size
                  have hEF : Els wF (fun b => w.heap.size ≤ b ∧ b < wF.heap.size) [leafT o, y] (some ⟨w8.heap.size, 0, none⟩) :=
                    els_pair (cs := [_, _, _]) (ds := [_, _, _]) hN rfl (rd_leaf HOi.out.1) ((HY.out.2.below HB8.out.1 (Nat.le_refl _)).rd hKF (fun b hb => .inl (by have : b = w.heap.size + 1 := hb; omega)) (by omega)) ⟨by omega, by omega⟩
                  clear hwF
                  exact bodyPost_ret (v := .tuple #[.agg #[.int .i64 (rulOf t o), .int .i64 0, .slice (some ⟨w8.heap.size, 0, none⟩) 2 2], .bool true]) (by simp [results, Try.results31, go_sem, j0, j1, j2]) rfl ⟨true, ⟨rulOf t o, 0, [leafT o, y]⟩, _, 2, rfl, ⟨HRl.out, i64_0, Nat.le_refl _, by omega, hEF⟩, ⟨fun _ => (by have h0 := HS4.out.2.2 HH3.out; subst h0; exact fit_pre HS4.out.2.1 HLv.out.1 HH3.out HOi.out.2 HS4.out.1 (by rw [← HRK.out]; exact HY.out.1)), fun h => by cases h⟩, hbF⟩
                · have E3 : (lv.kind == 3) = false := by simp [h3]
                  have HH3 := Lib.hid h3
                  clear h3
                  have HTi := HTm
                  have t0 : wm.cell? ⟨w.heap.size, 0, none⟩ = some (.int .i64 t.terms) := HTm.out.cell 0
                  have t1 : wm.cell? ⟨w.heap.size, 1, none⟩ = some (.int .i64 t.atom) := HTm.out.cell 1
                  have t2 : wm.cell? ⟨w.heap.size, 2, none⟩ = some (.int .i64 t.opn) := HTm.out.cell 2
                  have t3 : wm.cell? ⟨w.heap.size, 3, none⟩ = some (.int .i64 t.cls) := HTm.out.cell 3
                  have t4 : wm.cell? ⟨w.heap.size, 4, none⟩ = some (.slice (some ⟨bl, ol, none⟩) t.levels.length c) := HTm.out.cell 4
                  have zTm : w.heap.size < wm.heap.size := HTm.out.lt
                  have zRm : w.heap.size + 1 < wm.heap.size := HRm.out.lt
                  have hlen : (l.take a).length = a := by rw [List.length_take]; omega
                  have had : (a : Int) ≤ (d : Int) := by omega
                  have HI := Lib.hid (fun (w' : World) (hb : Below wm.heap.size wm w') => (by
                    have h := IH.out (l.take a) (by omega) (some ⟨bw, ow, none⟩) d lk S' w' (by omega) (by omega) (by omega) (HAm.out.below hb) (fun b h => by have := HS.out b h; have := hb.size; omega) ((HLm.out.below hb).takeS a) (fun b h => by have := HS'.out b h; have := hb.size; omega)
                    rw [hlen] at h
                    exact h : Calls Try.prog 31 #[.agg #[.int .i64 t.terms, .int .i64 t.atom, .int .i64 t.opn, .int .i64 t.cls, .slice (some ⟨bl, ol, none⟩) t.levels.length c], .slice (some ⟨bw, ow, none⟩) a d, .int .i64 (lk : Int)] w' (RetTr t lk (l.take a) w')))
                  clear hlen
                  go_upto_region 31 with (fail)
                  go_cut [22, 23] (fun p v wx => Got t lk (l.take a) wm p v wx)
                  case first =>
                    refine wp_region_noPanic ?_
                    refine wp_region_held_drew (S := (fun w' => w'.cell? ⟨w.heap.size, 0, none⟩ = some (.int .i64 t.terms) ∧ w'.cell? ⟨w.heap.size, 1, none⟩ = some (.int .i64 t.atom) ∧ w'.cell? ⟨w.heap.size, 2, none⟩ = some (.int .i64 t.opn) ∧ w'.cell? ⟨w.heap.size, 3, none⟩ = some (.int .i64 t.cls) ∧ w'.cell? ⟨w.heap.size, 4, none⟩ = some (.slice (some ⟨bl, ol, none⟩) t.levels.length c))) (by kernel_rfl) ?hk3 (fun hHeld => ?bk3)
                    case hk3 => ((try dsimp only); go_keep)
                    refine take_run (i := 0) (v := ?vk30) rfl (by kernel_rfl) (by kernel_rfl) (by kernel_rfl) (fun _ _ _ h => h) (by rfl) ?yk30 (by assumption) ?rk30
                    case yk30 => (intro w hSw; (try dsimp only at hSw); go_simp; try with_reducible rfl)
                    try simp only [Act.put, List.setIfInBounds_toArray, List.set_cons_zero, List.set_cons_succ]
                    refine take_run (i := 1) (v := ?vk31) rfl (by kernel_rfl) (by kernel_rfl) (by kernel_rfl) (fun _ _ _ h => h) (by rfl) ?yk31 (by assumption) ?rk31
                    case yk31 => (intro w hSw; (try dsimp only at hSw); go_simp; try with_reducible rfl)
                    try simp only [Act.put, List.setIfInBounds_toArray, List.set_cons_zero, List.set_cons_succ]
                    refine take_run (i := 2) (v := ?vk32) rfl (by kernel_rfl) (by kernel_rfl) (by kernel_rfl) (fun _ _ _ h => h) (by rfl) ?yk32 (by assumption) ?rk32
                    case yk32 => (intro w hSw; (try dsimp only at hSw); go_simp; try with_reducible rfl)
                    try simp only [Act.put, List.setIfInBounds_toArray, List.set_cons_zero, List.set_cons_succ]
                    refine take_run (i := 3) (v := ?vk33) rfl (by kernel_rfl) (by kernel_rfl) (by kernel_rfl) (fun _ _ _ h => h) (by rfl) ?yk33 (by assumption) ?rk33
                    case yk33 => (intro w hSw; (try dsimp only at hSw); go_simp; try with_reducible rfl)
                    try simp only [Act.put, List.setIfInBounds_toArray, List.set_cons_zero, List.set_cons_succ]
                    refine take_run (i := 4) (v := ?vk34) rfl (by kernel_rfl) (by kernel_rfl) (by kernel_rfl) (fun _ _ _ h => h) (by rfl) ?yk34 (by assumption) ?rk34
                    case yk34 => (intro w hSw; (try dsimp only at hSw); go_simp; try with_reducible rfl)
                    try simp only [Act.put, List.setIfInBounds_toArray, List.set_cons_zero, List.set_cons_succ]
                    refine take_two (i := 5) (j := 9) rfl rfl (by kernel_rfl) (by rfl) (by rfl) (fun Kq hK => ?onek35) (fun Kq hK => ?twok35)
                    case onek35 =>
                      go_simp
                      go_at_call 31
                      refine (HI.out _ (below_drew _)).mono ?_
                      rintro e w6 ⟨b, x, A6, c6, rfl, ho, ha, hb6⟩
                      have hbe := bundrew hb6
                      have zz : wm.heap.size < w6.heap.size + 1 := Nat.lt_succ_of_le hbe.size
                      have hT6 := HTi.out.below hbe HTi.out.lt
                      have HO6 := Lib.hid (And.intro ho (And.intro ha hb6))
                      have z6 := hbe.size
                      have t0' : w6.cell? ⟨w.heap.size, 0, none⟩ = some (.int .i64 t.terms) := hT6.cell 0
                      have t1' : w6.cell? ⟨w.heap.size, 1, none⟩ = some (.int .i64 t.atom) := hT6.cell 1
                      have t2' : w6.cell? ⟨w.heap.size, 2, none⟩ = some (.int .i64 t.opn) := hT6.cell 2
                      have t3' : w6.cell? ⟨w.heap.size, 3, none⟩ = some (.int .i64 t.cls) := hT6.cell 3
                      have t4' : w6.cell? ⟨w.heap.size, 4, none⟩ = some (.slice (some ⟨bl, ol, none⟩) t.levels.length c) := hT6.cell 4
                      have KS6 := Lib.hid (fun (w' : World) (k : Kept (fun b => wm.heap.size ≤ b) w6 w') => (have h := hT6.kept k (Nat.not_le_of_lt HTi.out.lt); And.intro (h.cell 0) (And.intro (h.cell 1) (And.intro (h.cell 2) (And.intro (h.cell 3) (h.cell 4))))))
                      clear ho ha hb6 hbe hT6
                      refine hK.out _ _ ?hk3a5 (fun hHeld => ?rk3a5)
                      case hk3a5 => ((try dsimp only); go_keep)
                      clear hK Kq
                      try simp only [Act.put, List.setIfInBounds_toArray, List.set_cons_zero, List.set_cons_succ]
                      refine take_run (i := 6) (v := ?vk3a6) rfl (by kernel_rfl) (by kernel_rfl) (by kernel_rfl) (fun _ _ _ h => h) (by rfl) ?yk3a6 (by assumption) ?rk3a6
                      case yk3a6 => (intro w hSw; (try dsimp only at hSw); go_simp; try with_reducible rfl)
                      try simp only [Act.put, List.setIfInBounds_toArray, List.set_cons_zero, List.set_cons_succ]
                      refine take_run (i := 7) (v := ?vk3a7) rfl (by kernel_rfl) (by kernel_rfl) (by kernel_rfl) (fun _ _ _ h => h) (by rfl) ?yk3a7 (by assumption) ?rk3a7
                      case yk3a7 => (intro w hSw; (try dsimp only at hSw); go_simp; try with_reducible rfl)
                      try simp only [Act.put, List.setIfInBounds_toArray, List.set_cons_zero, List.set_cons_succ]
                      refine take_run (i := 8) (v := ?vk3a8) rfl (by kernel_rfl) (by kernel_rfl) (by kernel_rfl) (fun _ _ _ h => h) (by rfl) ?yk3a8 (by assumption) ?rk3a8
                      case yk3a8 => (intro w hSw; (try dsimp only at hSw); go_simp; try with_reducible rfl)
                      try simp only [Act.put, List.setIfInBounds_toArray, List.set_cons_zero, List.set_cons_succ]
                      refine take_call (i := 9) rfl (by kernel_rfl) (by rfl) (fun Kq hK => ?_)
                      go_simp
                      refine hK.out _ _ ?hk3a9 (fun hHeld => ?rk3a9)
                      case hk3a9 => (first | ((try dsimp only); go_keep; done) | exact KS6.out _ ((Kept.refl _ _).alloc _))
                      clear hK Kq
                      try simp only [Act.put, List.setIfInBounds_toArray, List.set_cons_zero, List.set_cons_succ]
                      refine take_call (i := 10) rfl (by kernel_rfl) (by rfl) (fun Kq hK => ?_)
                      go_simp
                      refine hK.out _ _ ?hk3a10 (fun hHeld => ?rk3a10)
                      case hk3a10 => (first | ((try dsimp only); go_keep; done) | exact KS6.out _ ((Kept.refl _ _).alloc _) | exact KS6.out _ ((((Kept.refl (fun b => wm.heap.size ≤ b) w6).setCell (p := ⟨wm.heap.size, 0, none⟩) (.inl (Nat.le_refl _)) _).setCell (p := ⟨wm.heap.size, 1, none⟩) (.inl (Nat.le_refl _)) _).setCell (p := ⟨wm.heap.size, 2, none⟩) (.inl (Nat.le_refl _)) _))
                      clear hK Kq
                      try simp only [Act.put, List.setIfInBounds_toArray, List.set_cons_zero, List.set_cons_succ]
                      refine take_run (i := 11) (v := ?vk3a11) rfl (by kernel_rfl) (by kernel_rfl) (by kernel_rfl) (fun _ _ _ h => h) (by rfl) ?yk3a11 (by assumption) ?rk3a11
                      case yk3a11 => (intro w hSw; (try dsimp only at hSw); go_simp; try with_reducible rfl)
                      try simp only [Act.put, List.setIfInBounds_toArray, List.set_cons_zero, List.set_cons_succ]
                      refine wpAnyH_done (by kernel_rfl) ?_ _
                      refine NoPanic.normal ?_
                      go_wp2_with fail
                      go_meet
                      exact got_a HO6.out.1 HO6.out.2.1 (bundrew HO6.out.2.2) rfl
                    case twok35 =>
                      go_simp
                      refine hK.out _ _ ?hk3b9 (fun hHeld => ?rk3b9)
                      case hk3b9 => ((try dsimp only); go_keep)
                      clear hK Kq
                      try simp only [Act.put, List.setIfInBounds_toArray, List.set_cons_zero, List.set_cons_succ]
                      refine take_call (i := 5) rfl (by kernel_rfl) (by rfl) (fun Kq hK => ?_)
                      go_simp
                      go_at_call 31
                      refine (HI.out _ ((below_drew _).alloc (Nat.le_refl _) _)).mono ?_
                      rintro e w6 ⟨b, x, A6, c6, rfl, ho, ha, hb6⟩
                      have hbe := bthen ((below_drew wm).alloc (Nat.le_refl _) _) hb6 ((below_drew wm).alloc (Nat.le_refl _) _).size
                      have hG6 : Blk' w6 wm.heap.size 28 #[.int .i64 0, .int .i64 0, .slice none 0 0] := (Blk'.new wm.drew 28 #[.int .i64 0, .int .i64 0, .slice none 0 0]).below hb6 (Blk'.new wm.drew _ _).lt
                      have g0 : w6.cell? ⟨wm.heap.size, 0, none⟩ = some (.int .i64 0) := hG6.cell 0
                      have g1 : w6.cell? ⟨wm.heap.size, 1, none⟩ = some (.int .i64 0) := hG6.cell 1
                      have g2 : w6.cell? ⟨wm.heap.size, 2, none⟩ = some (.slice none 0 0) := hG6.cell 2
                      have y0 : w6.frozen? ⟨wm.heap.size, 0, none⟩ = false := hG6.frozen 0
                      have y1 : w6.frozen? ⟨wm.heap.size, 1, none⟩ = false := hG6.frozen 1
                      have y2 : w6.frozen? ⟨wm.heap.size, 2, none⟩ = false := hG6.frozen 2
                      have zz : wm.heap.size < w6.heap.size := hG6.lt
                      clear hG6
                      have hT6 := HTi.out.below hbe HTi.out.lt
                      have HO6 := Lib.hid (And.intro ho (And.intro ha hb6))
                      have z6 := hbe.size
                      have t0' : w6.cell? ⟨w.heap.size, 0, none⟩ = some (.int .i64 t.terms) := hT6.cell 0
                      have t1' : w6.cell? ⟨w.heap.size, 1, none⟩ = some (.int .i64 t.atom) := hT6.cell 1
                      have t2' : w6.cell? ⟨w.heap.size, 2, none⟩ = some (.int .i64 t.opn) := hT6.cell 2
                      have t3' : w6.cell? ⟨w.heap.size, 3, none⟩ = some (.int .i64 t.cls) := hT6.cell 3
                      have t4' : w6.cell? ⟨w.heap.size, 4, none⟩ = some (.slice (some ⟨bl, ol, none⟩) t.levels.length c) := hT6.cell 4
                      have KS6 := Lib.hid (fun (w' : World) (k : Kept (fun b => wm.heap.size ≤ b) w6 w') => (have h := hT6.kept k (Nat.not_le_of_lt HTi.out.lt); And.intro (h.cell 0) (And.intro (h.cell 1) (And.intro (h.cell 2) (And.intro (h.cell 3) (h.cell 4))))))
                      clear ho ha hb6 hbe hT6
                      refine hK.out _ _ ?hk3c (fun hHeld => ?rk3c)
                      case hk3c => ((try dsimp only); go_keep)
                      clear hK Kq
                      try simp only [Act.put, List.setIfInBounds_toArray, List.set_cons_zero, List.set_cons_succ]
                      refine take_run (i := 6) (v := ?vk3b6) rfl (by kernel_rfl) (by kernel_rfl) (by kernel_rfl) (fun _ _ _ h => h) (by rfl) ?yk3b6 (by assumption) ?rk3b6
                      case yk3b6 => (intro w hSw; (try dsimp only at hSw); go_simp; try with_reducible rfl)
                      try simp only [Act.put, List.setIfInBounds_toArray, List.set_cons_zero, List.set_cons_succ]
                      refine take_run (i := 7) (v := ?vk3b7) rfl (by kernel_rfl) (by kernel_rfl) (by kernel_rfl) (fun _ _ _ h => h) (by rfl) ?yk3b7 (by assumption) ?rk3b7
                      case yk3b7 => (intro w hSw; (try dsimp only at hSw); go_simp; try with_reducible rfl)
                      try simp only [Act.put, List.setIfInBounds_toArray, List.set_cons_zero, List.set_cons_succ]
                      refine take_run (i := 8) (v := ?vk3b8) rfl (by kernel_rfl) (by kernel_rfl) (by kernel_rfl) (fun _ _ _ h => h) (by rfl) ?yk3b8 (by assumption) ?rk3b8
                      case yk3b8 => (intro w hSw; (try dsimp only at hSw); go_simp; try with_reducible rfl)
                      try simp only [Act.put, List.setIfInBounds_toArray, List.set_cons_zero, List.set_cons_succ]
                      refine take_call (i := 10) rfl (by kernel_rfl) (by rfl) (fun Kq hK => ?_)
                      go_simp
                      refine hK.out _ _ ?hk3b10 (fun hHeld => ?rk3b10)
                      case hk3b10 => (first | ((try dsimp only); go_keep; done) | exact KS6.out _ ((Kept.refl _ _).alloc _) | exact KS6.out _ ((((Kept.refl (fun b => wm.heap.size ≤ b) w6).setCell (p := ⟨wm.heap.size, 0, none⟩) (.inl (Nat.le_refl _)) _).setCell (p := ⟨wm.heap.size, 1, none⟩) (.inl (Nat.le_refl _)) _).setCell (p := ⟨wm.heap.size, 2, none⟩) (.inl (Nat.le_refl _)) _))
                      clear hK Kq
                      try simp only [Act.put, List.setIfInBounds_toArray, List.set_cons_zero, List.set_cons_succ]
                      refine take_run (i := 11) (v := ?vk3b11) rfl (by kernel_rfl) (by kernel_rfl) (by kernel_rfl) (fun _ _ _ h => h) (by rfl) ?yk3b11 (by assumption) ?rk3b11
                      case yk3b11 => (intro w hSw; (try dsimp only at hSw); go_simp; try with_reducible rfl)
                      try simp only [Act.put, List.setIfInBounds_toArray, List.set_cons_zero, List.set_cons_succ]
                      refine wpAnyH_done (by kernel_rfl) ?_ _
                      refine NoPanic.normal ?_
                      go_wp2_with fail
                      go_meet
                      exact got_c HO6.out.1 HO6.out.2.1 HO6.out.2.2 rfl
                  case rest =>
                  obtain ⟨b, x, A7, c7, gx, rfl, rfl, hh, hH, ho, hat, hb9⟩ := hcut
                  obtain ⟨wn, hwn⟩ : ∃ wn : World, wn = wc := ⟨_, rfl⟩
                  subst hwn
                  cases b
                  case false =>
                    have HNf := Lib.hid (hat.2 rfl)
                    have HB9 := Lib.hid (bthen HB3m.out hb9 HB3m.out.size)
                    clear hH ho hat hb9
                    go_wp2_with fail
                    go_roundw
                    case rel => exact ⟨a + 1, hlta, by go_num, fun a' h' => (by
                      rcases Nat.lt_succ_iff_lt_or_eq.1 h' with h | rfl
                      · exact HN3.out a' h
                      · rintro ⟨_, _, _, _, hx⟩
                        obtain ⟨x, hx⟩ := hx HH3.out
                        rw [← HLK.out] at hx
                        exact HNf.out x hx), HB9.out⟩
                    case measure => simp [intOf]; omega
                  case true =>
                  have HX := Lib.hid (And.intro (hat.1 rfl) ho)
                  have HBn := Lib.hid hb9
                  have zn := hb9.size
                  have HGgx := Lib.hid hH
                  have HGn := Lib.hid (HGg.out.below hb9 HGg.out.lt)
                  have HRi := Lib.hid (HRm.out.below hb9 HRm.out.lt)
                  have HBwi := Lib.hid (bthen HBwm.out hb9 HBwm.out.size)
                  have HYn := Lib.hid (HY.out.2.below hb9 (Nat.le_refl _))
                  have hn0 : wn.cell? ⟨gx, 0, none⟩ = some (.int .i64 x.rule) := hH.cell 0
                  have hn1 : wn.cell? ⟨gx, 1, none⟩ = some (.int .i64 x.term) := hH.cell 1
                  have hn2 : wn.cell? ⟨gx, 2, none⟩ = some (.slice A7 x.kids.length c7) := hH.cell 2
                  have gn0 : wn.cell? ⟨g, 0, none⟩ = some (.int .i64 y.rule) := HGn.out.cell 0
                  have gn1 : wn.cell? ⟨g, 1, none⟩ = some (.int .i64 y.term) := HGn.out.cell 1
                  have gn2 : wn.cell? ⟨g, 2, none⟩ = some (.slice A6 y.kids.length c6) := HGn.out.cell 2
                  have zhn : gx < wn.heap.size := hH.lt
                  have zgn : g < wn.heap.size := HGn.out.lt
                  have zRh : w.heap.size + 1 < gx := Nat.lt_of_lt_of_le zRm hh
                  clear t0 t1 t2 t3 t4 zTm hH ho hat hb9 gm0 gm1 gm2 vm0
                  have HKS : Hid (∀ w' : World, Below wn.heap.size wn w' → w'.cell? ⟨gx, 0, none⟩ = some (.int .i64 x.rule) ∧ w'.cell? ⟨gx, 1, none⟩ = some (.int .i64 x.term) ∧ w'.cell? ⟨gx, 2, none⟩ = some (.slice A7 x.kids.length c7) ∧ w'.cell? ⟨g, 0, none⟩ = some (.int .i64 y.rule) ∧ w'.cell? ⟨g, 1, none⟩ = some (.int .i64 y.term) ∧ w'.cell? ⟨g, 2, none⟩ = some (.slice A6 y.kids.length c6)) := Lib.hid (fun w' hb => by
                    have h1 := HGgx.out.below hb HGgx.out.lt
                    have h2 := HGn.out.below hb HGn.out.lt
                    exact ⟨h1.cell 0, h1.cell 1, h1.cell 2, h2.cell 0, h2.cell 1, h2.cell 2⟩)
                  clear HGg
                  have HGg := HGn
                  go_upto_region 33 with (fail)
                  refine wp_region_noPanic ?_
                  refine wp_region_held_drew (S := (fun w' => w'.cell? ⟨gx, 0, none⟩ = some (.int .i64 x.rule) ∧ w'.cell? ⟨gx, 1, none⟩ = some (.int .i64 x.term) ∧ w'.cell? ⟨gx, 2, none⟩ = some (.slice A7 x.kids.length c7) ∧ w'.cell? ⟨g, 0, none⟩ = some (.int .i64 y.rule) ∧ w'.cell? ⟨g, 1, none⟩ = some (.int .i64 y.term) ∧ w'.cell? ⟨g, 2, none⟩ = some (.slice A6 y.kids.length c6))) (by kernel_rfl) ?hn33 (fun hHeld => ?bn33)
                  case hn33 => ((try dsimp only); go_keep)
                  refine take_run (i := 0) (v := ?vn330) rfl (by kernel_rfl) (by kernel_rfl) (by kernel_rfl) (fun _ _ _ h => h) (by rfl) ?yn330 (by assumption) ?rn330
                  case yn330 => (intro w hSw; (try dsimp only at hSw); go_simp; try with_reducible rfl)
                  try simp only [Act.put, List.setIfInBounds_toArray, List.set_cons_zero, List.set_cons_succ]
                  refine take_run (i := 1) (v := ?vn331) rfl (by kernel_rfl) (by kernel_rfl) (by kernel_rfl) (fun _ _ _ h => h) (by rfl) ?yn331 (by assumption) ?rn331
                  case yn331 => (intro w hSw; (try dsimp only at hSw); go_simp; try with_reducible rfl)
                  try simp only [Act.put, List.setIfInBounds_toArray, List.set_cons_zero, List.set_cons_succ]
                  refine take_run (i := 2) (v := ?vn332) rfl (by kernel_rfl) (by kernel_rfl) (by kernel_rfl) (fun _ _ _ h => h) (by rfl) ?yn332 (by assumption) ?rn332
                  case yn332 => (intro w hSw; (try dsimp only at hSw); go_simp; try with_reducible rfl)
                  try simp only [Act.put, List.setIfInBounds_toArray, List.set_cons_zero, List.set_cons_succ]
                  refine take_run (i := 3) (v := ?vn333) rfl (by kernel_rfl) (by kernel_rfl) (by kernel_rfl) (fun _ _ _ h => h) (by rfl) ?yn333 (by assumption) ?rn333
                  case yn333 => (intro w hSw; (try dsimp only at hSw); go_simp; try with_reducible rfl)
                  try simp only [Act.put, List.setIfInBounds_toArray, List.set_cons_zero, List.set_cons_succ]
                  refine take_run (i := 4) (v := ?vn334) rfl (by kernel_rfl) (by kernel_rfl) (by kernel_rfl) (fun _ _ _ h => h) (by rfl) ?yn334 (by assumption) ?rn334
                  case yn334 => (intro w hSw; (try dsimp only at hSw); go_simp; try with_reducible rfl)
                  try simp only [Act.put, List.setIfInBounds_toArray, List.set_cons_zero, List.set_cons_succ]
                  refine take_run (i := 5) (v := ?vn335) rfl (by kernel_rfl) (by kernel_rfl) (by kernel_rfl) (fun _ _ _ h => h) (by rfl) ?yn335 (by assumption) ?rn335
                  case yn335 => (intro w hSw; (try dsimp only at hSw); go_simp; try with_reducible rfl)
                  try simp only [Act.put, List.setIfInBounds_toArray, List.set_cons_zero, List.set_cons_succ]
                  refine take_run (i := 7) (v := ?vn337) rfl (by kernel_rfl) (by kernel_rfl) (by kernel_rfl) (fun _ _ _ h => h) (by rfl) ?yn337 (by assumption) ?rn337
                  case yn337 => (intro w hSw; (try dsimp only at hSw); go_simp; try with_reducible rfl)
                  try simp only [Act.put, List.setIfInBounds_toArray, List.set_cons_zero, List.set_cons_succ]
                  refine take_call (i := 6) rfl (by kernel_rfl) (by rfl) (fun Kq hK => ?_)
                  go_simp
                  go_at_call 53
                  refine (leafOf_any _ wn.drew).mono ?_
                  rintro e w8 ⟨rfl, hb8⟩
                  have hb8 := bundrew hb8
                  have hs8 : w8.cell? ⟨gx, 0, none⟩ = some (.int .i64 x.rule) ∧ w8.cell? ⟨gx, 1, none⟩ = some (.int .i64 x.term) ∧ w8.cell? ⟨gx, 2, none⟩ = some (.slice A7 x.kids.length c7) ∧ w8.cell? ⟨g, 0, none⟩ = some (.int .i64 y.rule) ∧ w8.cell? ⟨g, 1, none⟩ = some (.int .i64 y.term) ∧ w8.cell? ⟨g, 2, none⟩ = some (.slice A6 y.kids.length c6) := HKS.out _ hb8
                  have s0 := hs8.1
                  have s1 := hs8.2.1
                  have s2 := hs8.2.2.1
                  have s3 := hs8.2.2.2.1
                  have s4 := hs8.2.2.2.2.1
                  have s5 := hs8.2.2.2.2.2
                  have hR8 := HRi.out.below hb8 HRi.out.lt
                  have v0 : w8.cell? ⟨w.heap.size + 1, 0, none⟩ = some (.int .i64 0) := hR8.cell 0
                  have v1 : w8.cell? ⟨w.heap.size + 1, 1, none⟩ = some (.int .i64 0) := hR8.cell 1
                  have v2 : w8.cell? ⟨w.heap.size + 1, 2, none⟩ = some (.slice none 0 0) := hR8.cell 2
                  have y0 := hR8.frozen 0
                  have y1 := hR8.frozen 1
                  have y2 := hR8.frozen 2
                  have zR8 : w.heap.size + 1 < w8.heap.size := hR8.lt
                  have KS8 : Hid (∀ w' : World, Kept (fun b => b = w.heap.size + 1) w8 w' → w'.cell? ⟨gx, 0, none⟩ = some (.int .i64 x.rule) ∧ w'.cell? ⟨gx, 1, none⟩ = some (.int .i64 x.term) ∧ w'.cell? ⟨gx, 2, none⟩ = some (.slice A7 x.kids.length c7) ∧ w'.cell? ⟨g, 0, none⟩ = some (.int .i64 y.rule) ∧ w'.cell? ⟨g, 1, none⟩ = some (.int .i64 y.term) ∧ w'.cell? ⟨g, 2, none⟩ = some (.slice A6 y.kids.length c6)) := Lib.hid (fun w' k => ⟨(k.cell (p := ⟨gx, 0, none⟩) (Nat.lt_of_lt_of_le HGgx.out.lt hb8.size) (fun h => by have : gx = w.heap.size + 1 := h; omega)).trans (hs8.1), (k.cell (p := ⟨gx, 1, none⟩) (Nat.lt_of_lt_of_le HGgx.out.lt hb8.size) (fun h => by have : gx = w.heap.size + 1 := h; omega)).trans (hs8.2.1), (k.cell (p := ⟨gx, 2, none⟩) (Nat.lt_of_lt_of_le HGgx.out.lt hb8.size) (fun h => by have : gx = w.heap.size + 1 := h; omega)).trans (hs8.2.2.1), (k.cell (p := ⟨g, 0, none⟩) (Nat.lt_of_lt_of_le HGg.out.lt hb8.size) (fun h => by have : g = w.heap.size + 1 := h; omega)).trans (hs8.2.2.2.1), (k.cell (p := ⟨g, 1, none⟩) (Nat.lt_of_lt_of_le HGg.out.lt hb8.size) (fun h => by have : g = w.heap.size + 1 := h; omega)).trans (hs8.2.2.2.2.1), (k.cell (p := ⟨g, 2, none⟩) (Nat.lt_of_lt_of_le HGg.out.lt hb8.size) (fun h => by have : g = w.heap.size + 1 := h; omega)).trans (hs8.2.2.2.2.2)⟩)
                  have HB8 := Lib.hid (And.intro hb8 hR8)
                  clear hs8 hb8 hR8
                  refine hK.out _ _ ?hn336 (fun hHeld => ?rn336)
                  case hn336 => ((try dsimp only); go_keep)
                  clear hK Kq
                  try simp only [Act.put, List.setIfInBounds_toArray, List.set_cons_zero, List.set_cons_succ]
                  refine take_call (i := 8) rfl (by kernel_rfl) (by rfl) (fun Kq hK => ?_)
                  go_simp
                  refine hK.out _ _ ?hn338 (fun hHeld => ?rn338)
                  case hn338 => (first | ((try dsimp only); go_keep; done) | exact KS8.out _ ((Kept.refl _ _).alloc _) | exact KS8.out _ (((((Kept.refl (fun b => b = w.heap.size + 1) w8).setCell (p := ⟨w.heap.size + 1, 0, none⟩) (.inl rfl) _).setCell (p := ⟨w.heap.size + 1, 1, none⟩) (.inl rfl) _).setCell (p := ⟨w.heap.size + 1, 2, none⟩) (.inl rfl) _)) | exact KS8.out _ (((((Kept.refl (fun b => b = w.heap.size + 1) w8).setCell (p := ⟨w.heap.size + 1, 0, none⟩) (.inl rfl) _).setCell (p := ⟨w.heap.size + 1, 1, none⟩) (.inl rfl) _).setCell (p := ⟨w.heap.size + 1, 2, none⟩) (.inl rfl) _).alloc _) | exact KS8.out _ (((((Kept.refl (fun b => b = w.heap.size + 1) w8).alloc _.setCell (p := ⟨w.heap.size + 1, 0, none⟩) (.inl rfl) _).setCell (p := ⟨w.heap.size + 1, 1, none⟩) (.inl rfl) _).setCell (p := ⟨w.heap.size + 1, 2, none⟩) (.inl rfl) _)))
                  clear hK Kq
                  try simp only [Act.put, List.setIfInBounds_toArray, List.set_cons_zero, List.set_cons_succ]
                  refine take_run (i := 9) (v := ?vn339) rfl (by kernel_rfl) (by kernel_rfl) (by kernel_rfl) (fun _ _ _ h => h) (by rfl) ?yn339 (by assumption) ?rn339
                  case yn339 => (intro w hSw; (try dsimp only at hSw); go_simp; try with_reducible rfl)
                  try simp only [Act.put, List.setIfInBounds_toArray, List.set_cons_zero, List.set_cons_succ]
                  refine take_call (i := 10) rfl (by kernel_rfl) (by rfl) (fun Kq hK => ?_)
                  go_simp
                  refine hK.out _ _ ?hn3310 (fun hHeld => ?rn3310)
                  case hn3310 => (first | ((try dsimp only); go_keep; done) | exact KS8.out _ ((Kept.refl _ _).alloc _) | exact KS8.out _ (((((Kept.refl (fun b => b = w.heap.size + 1) w8).setCell (p := ⟨w.heap.size + 1, 0, none⟩) (.inl rfl) _).setCell (p := ⟨w.heap.size + 1, 1, none⟩) (.inl rfl) _).setCell (p := ⟨w.heap.size + 1, 2, none⟩) (.inl rfl) _)) | exact KS8.out _ (((((Kept.refl (fun b => b = w.heap.size + 1) w8).setCell (p := ⟨w.heap.size + 1, 0, none⟩) (.inl rfl) _).setCell (p := ⟨w.heap.size + 1, 1, none⟩) (.inl rfl) _).setCell (p := ⟨w.heap.size + 1, 2, none⟩) (.inl rfl) _).alloc _) | exact KS8.out _ (((((Kept.refl (fun b => b = w.heap.size + 1) w8).alloc _.setCell (p := ⟨w.heap.size + 1, 0, none⟩) (.inl rfl) _).setCell (p := ⟨w.heap.size + 1, 1, none⟩) (.inl rfl) _).setCell (p := ⟨w.heap.size + 1, 2, none⟩) (.inl rfl) _)))
                  clear hK Kq
                  try simp only [Act.put, List.setIfInBounds_toArray, List.set_cons_zero, List.set_cons_succ]
                  refine take_run (i := 11) (v := ?vn3311) rfl (by kernel_rfl) (by kernel_rfl) (by kernel_rfl) (fun _ _ _ h => h) (by rfl) ?yn3311 (by assumption) ?rn3311
                  case yn3311 => (intro w hSw; (try dsimp only at hSw); go_simp; try with_reducible rfl)
                  try simp only [Act.put, List.setIfInBounds_toArray, List.set_cons_zero, List.set_cons_succ]
                  refine wpAnyH_done (by kernel_rfl) ?_ _
                  refine NoPanic.normal ?_
                  go_wp2_with fail
                  generalize hwF : World.alloc _ _ = wF
                  obtain ⟨⟨j0, j1, j2⟩, hN, hz, hKF, hbF⟩ := tr_fin (bthen HBwi.out HB8.out.1 HBwi.out.size) HB8.out.2 (Nat.le_succ _) hwF.symm
                  have z8 := HB8.out.1.size
                  have hEF : Els wF (fun b => w.heap.size ≤ b ∧ b < wF.heap.size) [x, leafT o, y] (some ⟨w8.heap.size, 0, none⟩) :=
                    els_trio (cs := [_, _, _]) (ds := [_, _, _]) (fs := [_, _, _]) hN rfl ((HX.out.2.below HB8.out.1 (Nat.le_refl _)).rd hKF (fun b hb => .inl (by have : b = w.heap.size + 1 := hb; omega)) (by omega)) (rd_leaf HOi.out.1) ((HYn.out.below HB8.out.1 (Nat.le_refl _)).rd hKF (fun b hb => .inl (by have : b = w.heap.size + 1 := hb; omega)) (by omega)) ⟨by omega, by omega⟩
                  clear hwF
                  exact bodyPost_ret (v := .tuple #[.agg #[.int .i64 (rulOf t o), .int .i64 0, .slice (some ⟨w8.heap.size, 0, none⟩) 3 3], .bool true]) (by simp [results, Try.results31, go_sem, j0, j1, j2]) rfl ⟨true, ⟨rulOf t o, 0, [x, leafT o, y]⟩, _, 3, rfl, ⟨HRl.out, i64_0, Nat.le_refl _, by omega, hEF⟩, ⟨fun _ => (fit_inf HS4.out.2.1 HLv.out.1 HH3.out HKd.out.2 HOi.out.2 HS4.out.1 (by rw [← HLK.out]; exact HX.out.1) (by rw [← HRK.out]; exact HY.out.1)), fun h => by cases h⟩, hbF⟩
            · have HNf : Hid (∀ a, ¬ Fit t k l j lv o a) := Lib.hid (fun a' hf => HN3.out a' (by have := (List.getElem?_eq_some_iff.1 hf.1).1; omega) hf)
              have HBq3 := Lib.hid (bthen HBq.out HB3.out HBq.out.size)
              go_wp2_with fail
              go_roundw
              case rel =>
                refine ⟨m + 1, hltm, by go_num, fun o' ho' a' => ?_, HBq3.out⟩
                rw [take_snoc HOm.out] at ho'
                rcases List.mem_append.1 ho' with h | h
                · exact HNq.out o' h a'
                · rw [List.mem_singleton] at h
                  subst h
                  exact HNf.out a'
              case measure => simp [intOf]; omega
        · have HNf : Hid (∀ o ∈ lv.ops, ∀ a, ¬ Fit t k l j lv o a) := Lib.hid (by have h := HNq.out; rwa [List.take_of_length_le (by omega)] at h)
          have hvq := HVv.out.below HBq.out HVv.out.lt
          have vq1 : wq.cell? ⟨wo.heap.size, 1, none⟩ = some (.slice Ao lv.ops.length co) := hvq.cell 1
          have zvq : wo.heap.size < wq.heap.size := hvq.lt
          have hps := pre_succ HLv.out.1
          have HPS := Lib.hid hps
          have hwp : IntKind.i64.wrap (((baseN t + preN t j : Nat) : Int) + (lv.ops.length : Int)) = ((baseN t + preN t (j + 1) : Nat) : Int) := by
            rw [IntWalk.i64_in _ (by omega)]; push_cast; omega
          clear hps hvq
          go_wp2_with fail
          go_roundw
          case rel => exact ⟨j + 1, hlt, by go_num, (by have h := HPS.out; congr 1; omega), HNo.out.succ HLv.out.1 HNf.out, bthen (bthen HBo.out HBv.out HBo.out.size) HBq.out (by omega)⟩
          case measure => simp [intOf]; omega
    · have HNf : Hid (∀ x, ¬ Lv t k x l) := Lib.hid (no_tree HNA.out HNB.out (fun i lv o a hl ho hf => HNo.out i (by have := (List.getElem?_eq_some_iff.1 hl).1; omega) lv hl o ho a hf))
      have hRo := HR2.out.below HBo.out HR2.out.lt
      have r0 : wo.cell? ⟨w.heap.size + 1, 0, none⟩ = some (.int .i64 0) := hRo.cell 0
      have r1 : wo.cell? ⟨w.heap.size + 1, 1, none⟩ = some (.int .i64 0) := hRo.cell 1
      have r2 : wo.cell? ⟨w.heap.size + 1, 2, none⟩ = some (.slice none 0 0) := hRo.cell 2
      have f0 := hRo.frozen 0
      have f1 := hRo.frozen 1
      have f2 := hRo.frozen 2
      have zRo : w.heap.size + 1 < wo.heap.size := hRo.lt
      have HRF := Lib.hid (((hRo.set_ 0 (.int .i64 0)).set_ 1 (.int .i64 0)).set_ 2 (.slice none 0 0))
      have HBF := Lib.hid (bthen HB2.out HBo.out HB2.out.size)
      clear hRo
      go_wp2
      generalize hwF : World.setCell _ _ _ = wF
      have hRF : Blk' wF (w.heap.size + 1) 28 #[.int .i64 0, .int .i64 0, .slice none 0 0] := by rw [← hwF]; exact HRF.out
      have j0 : wF.cell? ⟨w.heap.size + 1, 0, none⟩ = some (.int .i64 0) := hRF.cell 0
      have j1 : wF.cell? ⟨w.heap.size + 1, 1, none⟩ = some (.int .i64 0) := hRF.cell 1
      have j2 : wF.cell? ⟨w.heap.size + 1, 2, none⟩ = some (.slice none 0 0) := hRF.cell 2
      have hbF : Below w.heap.size w wF := by rw [← hwF]; exact ((HBF.out.setCell (p := ⟨w.heap.size + 1, 0, none⟩) (Nat.le_succ _) _).setCell (p := ⟨w.heap.size + 1, 1, none⟩) (Nat.le_succ _) _).setCell (p := ⟨w.heap.size + 1, 2, none⟩) (Nat.le_succ _) _
      clear hwF
      exact bodyPost_ret (v := .tuple #[.agg #[.int .i64 0, .int .i64 0, .slice none 0 0], .bool false]) (by simp [results, Try.results31, go_sem, j0, j1, j2]) rfl ⟨false, ⟨0, 0, []⟩, none, 0, rfl, ⟨i64_0, i64_0, Nat.le_refl _, by decide, fun h => absurd rfl h⟩, ⟨fun h => (by cases h), fun _ => HNf.out⟩, hbF⟩

end Go.Proofs.Ytpcjfgikicpioaa
