/- Contract: parlref2.opOf. -/
import Derived.Test.YtlbhaegdcpacpaaBackP
import Derived.Test.YtlbhaegdcpacpaaElem
import Derived.Test.YtlbhaegdcpacpaaContInt
import Derived.Deep.QuietTactic
import Derived.BigQuiet
import Derived.Deep.DeepCutAuto
namespace Go.Proofs.Ytlbhaegdcpacpaa
open Go.RowKit
set_option linter.unusedVariables false

def hitP (l : Level) (k : Tree) : Bool := decide (k.rule = -1) && decide (k.term ∈ l.ops)
theorem hitE_eq (l : Level) (ks : List Tree) : hitE l ks = (ks.take 2).any (hitP l) := by
  unfold hitE hitP
  rfl
theorem ret_pair {p : Int × Int} {a b : Int} (h : p = (a, b)) : Ending.returned (.tuple #[.int .i64 a, .int .i64 b]) = .returned (.tuple #[.int .i64 p.1, .int .i64 p.2]) := by rw [h]
def OoL (t : Table) (ks : List Tree) (w : World) (i : Value) (wr : World) : Prop :=
  ∃ k : Nat, k ≤ t.levels.length ∧ i = .int .i64 k ∧ opFrom 0 t.levels ks = opFrom k (t.levels.drop k) ks ∧ Below w.heap.size w wr
def OiL (l : Level) (ks : List Tree) (L : Nat) (lc : Array Value) (w : World) (i : Value) (wr : World) : Prop :=
  ∃ m : Nat, m ≤ 2 ∧ i = .int .i64 m ∧ (ks.take m).any (hitP l) = false ∧ Below w.heap.size w wr ∧ Blk' wr L 81 lc

set_option maxRecDepth 100000 in
set_option maxHeartbeats 4000000 in
theorem opOf_any (t : Table) (x : Tree) (A B : Option Addr) (c d : Nat) (S S' : Nat → Prop) (w : World) (hln : t.levels.length ≤ 1000000) (hA : Els w S t.levels A) (hld : x.kids.length ≤ d) (hd : d ≤ 9223372036854775807) (hB : Els w S' x.kids B) :
    Calls Try.prog 58 #[.agg #[.int .i64 t.terms, .int .i64 t.atom, .int .i64 t.opn, .int .i64 t.cls, .slice A t.levels.length c], .agg #[.int .i64 x.rule, .int .i64 x.term, .slice B x.kids.length d]] w
      fun e w' => e = .returned (.tuple #[.int .i64 (opOfE t x.kids).1, .int .i64 (opOfE t x.kids).2]) ∧ Below w.heap.size w w' := by
  obtain ⟨r, tm, ks⟩ := x
  dsimp only [Tree.rule, Tree.term, Tree.kids] at *
  obtain ⟨w1, hw1⟩ : ∃ w1 : World, w1 = (w.alloc (.cells #[.int .i64 t.terms, .int .i64 t.atom, .int .i64 t.opn, .int .i64 t.cls, .slice A t.levels.length c] 24)).alloc (.cells #[.int .i64 r, .int .i64 tm, .slice B ks.length d] 27) := ⟨_, rfl⟩
  have hb1 : Below w.heap.size w w1 := by rw [hw1]; exact ((Below.refl _ _).alloc (Nat.le_refl _) _).alloc (by simp) _
  have hT1 : Blk' w1 w.heap.size 24 #[.int .i64 t.terms, .int .i64 t.atom, .int .i64 t.opn, .int .i64 t.cls, .slice A t.levels.length c] := by rw [hw1]; exact (Blk'.new w _ _).alloc _
  have hX1 : Blk' w1 (w.heap.size + 1) 27 #[.int .i64 r, .int .i64 tm, .slice B ks.length d] := by rw [hw1]; exact Blk'.new' _ _ _ (by simp)
  have H1 := Lib.hid (And.intro hb1 (And.intro hT1 (And.intro hX1 (And.intro (hA.below hb1) (hB.below hb1)))))
  have t4 : w1.cell? ⟨w.heap.size, 4, none⟩ = some (.slice A t.levels.length c) := hT1.cell 4
  have x2 : w1.cell? ⟨w.heap.size + 1, 2, none⟩ = some (.slice B ks.length d) := hX1.cell 2
  have HW1 := Lib.hid hw1
  have hln9 : t.levels.length ≤ 9223372036854775807 := by omega
  have hkl9 : ks.length ≤ 9223372036854775807 := by omega
  clear hw1 hb1 hT1 hX1 hA hB
  by_cases hk1 : 1 < ks.length
  · have HE := Lib.hid (show opOfE t ks = opFrom 0 t.levels ks by simp [opOfE, hk1])
    have hk1' : (1 : Int) < (ks.length : Int) := by omega
    have hd2 : 2 ≤ d := by omega
    go_enter Try.func58, Try.ntmps58
    go_upto_region 1 with (fail)
    rw [← HW1.out]
    go_wp2_with fail
    go_loopw [17] (fun i wr => OoL t ks w1 i wr) (fun i _ => t.levels.length - (intOf i).toNat)
    case atStart => exact ⟨0, Nat.zero_le _, rfl, rfl, Below.refl _ _⟩
    case round =>
      obtain ⟨wo, hwo⟩ : ∃ wo : World, wo = wr := ⟨_, rfl⟩
      subst hwo
      obtain ⟨k, hk, rfl, hop, hb⟩ := hrel
      have HOp := Lib.hid hop
      have HB := Lib.hid hb
      have hTo := H1.out.2.1.below hb H1.out.2.1.lt
      have hXo := H1.out.2.2.1.below hb H1.out.2.2.1.lt
      have t4' : wo.cell? ⟨w.heap.size, 4, none⟩ = some (.slice A t.levels.length c) := hTo.cell 4
      have x2' : wo.cell? ⟨w.heap.size + 1, 2, none⟩ = some (.slice B ks.length d) := hXo.cell 2
      have zx : w.heap.size + 1 < wo.heap.size := hXo.lt
      have zt : w.heap.size < wo.heap.size := hTo.lt
      clear hop hb hTo hXo t4 x2
      by_cases hlt : k < t.levels.length
      · obtain ⟨l, hl⟩ := get_some hlt
        obtain ⟨b5, o5, A5, c5, eA, _, hb5, hk64, hlc1, hlc2, hEo, m0, m1⟩ := (H1.out.2.2.2.1.below HB.out).level hl
        have HDr := Lib.hid (drop_cons hl)
        obtain ⟨kd, os⟩ := l
        dsimp only at *
        subst eA
        have hk0 : (0 : Int) ≤ (k : Int) := by omega
        have hk2 : (k : Int) < (t.levels.length : Int) := by omega
        have hba : Below wo.heap.size wo (wo.alloc (.cells #[.int .i64 kd, .slice A5 os.length c5] 81)) := (Below.refl _ _).alloc (Nat.le_refl _) _
        have HL := Lib.hid (And.intro hba (And.intro (hEo.below hba) (Blk'.new wo 81 #[.int .i64 kd, .slice A5 os.length c5])))
        have hos9 : os.length ≤ 9223372036854775807 := by omega
        clear hl hEo hba hk64
        go_wp2_with fail
        go_loopw [26] (fun i wr => OiL ⟨kd, os⟩ ks wo.heap.size #[.int .i64 kd, .slice A5 os.length c5] (wo.alloc (.cells #[.int .i64 kd, .slice A5 os.length c5] 81)) i wr) (fun i _ => 2 - (intOf i).toNat)
        case atStart => exact ⟨0, by omega, rfl, by simp, Below.refl _ _, HL.out.2.2⟩
        case round =>
          obtain ⟨wi, hwi⟩ : ∃ wi : World, wi = wr := ⟨_, rfl⟩
          subst hwi
          obtain ⟨m, hm, rfl, hno, hbi, hLi⟩ := hrel
          have HNo := Lib.hid hno
          have HBi := Lib.hid (And.intro hbi (bthen HL.out.1 hbi (by simp)))
          have HLi := Lib.hid hLi
          have l0 : wi.cell? ⟨wo.heap.size, 0, none⟩ = some (.int .i64 kd) := hLi.cell 0
          have l1 : wi.cell? ⟨wo.heap.size, 1, none⟩ = some (.slice A5 os.length c5) := hLi.cell 1
          have zl : wo.heap.size < wi.heap.size := hLi.lt
          clear hno hbi hLi
          by_cases hlt2 : m < 2
          · obtain ⟨y, hy⟩ := get_some (show m < ks.length by omega)
            obtain ⟨bk, ok, Ay, cy, eB, hSk, hbk, hyi, hyt, hy1, hy2, hEy, kc0, kc1, kc2⟩ := ((H1.out.2.2.2.2.below HB.out).below HBi.out.2).tree hy
            subst eB
            have HT := Lib.hid (take_snoc hy)
            obtain ⟨yr, yt, yk⟩ := y
            dsimp only [Tree.rule, Tree.term, Tree.kids] at kc0 kc1 kc2
            have hm0 : (0 : Int) ≤ (m : Int) := by omega
            have hm1 : (m : Int) < 2 := by omega
            have hba2 : Below wi.heap.size wi (wi.alloc (.cells #[.int .i64 yr, .int .i64 yt, .slice Ay yk.length cy] 27)) := (Below.refl _ _).alloc (Nat.le_refl _) _
            have HI := Lib.hid (And.intro (bthen HBi.out.1 hba2 HBi.out.1.size) (And.intro (HLi.out.below hba2 HLi.out.lt) ((HL.out.2.1.below HBi.out.1).below hba2)))
            clear hy hyi hyt hEy hba2
            by_cases hyr : yr = -1
            · subst hyr
              go_wp2_with fail
              refine (containsInt_any A5 os.length c5 os yt S _ rfl hos9 HI.out.2.2).mono ?_
              rintro e w' ⟨rfl, rfl⟩
              by_cases hmem : yt ∈ os
              · have HH := Lib.hid (show opOfE t ks = ((k : Int), kd) by
                  rw [HE.out, HOp.out, HDr.out, opFrom, if_pos]
                  rw [hitE_eq, List.any_eq_true]
                  refine ⟨⟨-1, yt, yk⟩, ?_, by simp [hitP, Tree.rule, Tree.term, hmem]⟩
                  have h1 : (⟨-1, yt, yk⟩ : Tree) ∈ ks.take (m + 1) := by rw [HT.out]; simp
                  exact List.take_subset_take_left ks (show m + 1 ≤ 2 by omega) h1)
                rw [decide_eq_true hmem]
                clear hmem
                go_wp2_with fail
                go_quiet (fail)
                go_wp2
                go_ret2
                exact ⟨ret_pair HH.out, bdrewN (bthen H1.out.1 (bthen HB.out (bthen HL.out.1 HI.out.1 (by simp)) HB.out.size) H1.out.1.size)⟩
              · have HH := Lib.hid (show (ks.take (m + 1)).any (hitP ⟨kd, os⟩) = false by
                  rw [HT.out, List.any_append, HNo.out]; simp [hitP, Tree.term, hmem])
                rw [decide_eq_false hmem]
                clear hmem
                go_wp2_with fail
                go_roundw
                case rel => exact ⟨m + 1, by omega, by go_num, HH.out, HI.out.1, HI.out.2.1⟩
                case measure => simp [intOf]; omega
            · have HH := Lib.hid (show (ks.take (m + 1)).any (hitP ⟨kd, os⟩) = false by
                rw [HT.out, List.any_append, HNo.out]; simp [hitP, Tree.rule, hyr])
              have hyr' : (yr == -1) = false := by simpa using hyr
              clear hyr
              go_wp2_with fail
              go_roundw
              case rel => exact ⟨m + 1, by omega, by go_num, HH.out, HI.out.1, HI.out.2.1⟩
              case measure => simp [intOf]; omega
          · have HH := Lib.hid (show opFrom 0 t.levels ks = opFrom (k + 1) (t.levels.drop (k + 1)) ks by
              rw [HOp.out, HDr.out, opFrom, if_neg]
              rw [hitE_eq, show (2 : Nat) = m by omega, HNo.out]; simp)
            go_wp2_with fail
            go_roundw
            case rel => exact ⟨k + 1, hlt, by go_num, HH.out, bthen HB.out HBi.out.2 HB.out.size⟩
            case measure => simp [intOf]; omega
      · have HH := Lib.hid (show opOfE t ks = ((t.levels.length : Int), -1) by
          rw [HE.out, HOp.out, List.drop_of_length_le (by omega), opFrom]
          congr 2; omega)
        go_wp2
        go_ret2
        exact ⟨ret_pair HH.out, bthen H1.out.1 HB.out H1.out.1.size⟩
  · have HE := Lib.hid (show opOfE t ks = ((t.levels.length : Int), -1) by simp [opOfE, hk1])
    have hk1' : ¬ (1 : Int) < (ks.length : Int) := by omega
    go_enter Try.func58, Try.ntmps58
    go_upto_region 1 with (fail)
    rw [← HW1.out]
    go_wp2
    go_ret2
    exact ⟨ret_pair HE.out, H1.out.1⟩
end Go.Proofs.Ytlbhaegdcpacpaa
