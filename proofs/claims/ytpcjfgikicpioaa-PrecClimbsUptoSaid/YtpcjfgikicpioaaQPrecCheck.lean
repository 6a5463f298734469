/- Contract: prec.Check. -/
import Derived.Test.YtpcjfgikicpioaaQBrackets
import Derived.Test.YtpcjfgikicpioaaQContInt
import Derived.Test.YtpcjfgikicpioaaQWhereP
import Derived.Test.YtpcjfgikicpioaaQIdxRule
namespace Go.Proofs.Ytpcjfgikicpioaa
open Go.RowKit
set_option linter.unusedVariables false

/-- A row of integers that a literal has built. -/
theorem Own.built {w : World} (S : Nat → Prop) {base : Nat} {e : TypeId} (xs : List Int) (hb : base ≤ w.heap.size) (hm : xs.length ≤ 9223372036854775807) (hx : ∀ x ∈ xs, I64 x) :
    Own (w.alloc (.cells (xs.map (fun x => Value.int .i64 x)).toArray e)) S base e (.slice (some ⟨w.heap.size, 0, none⟩) xs.length xs.length) xs := by
  refine ⟨xs.map (fun x => [Value.int .i64 x]), ⟨?_, .inr ⟨w.heap.size, xs.length, _, rfl, hb, heap_alloc_new w _, Nat.le_refl _, by simpa [maxLen] using hm, by simp; show _ = _ * 1; simp, ?_⟩⟩, by simp, ?_⟩
  · rw [flat_len (size := Dat.size Int) _ (by intro cs h; simp at h; obtain ⟨x, _, rfl⟩ := h; rfl)]; simp
  · have e1 : (xs.map (fun x => [Value.int .i64 x])).flatten = xs.map (fun x => Value.int .i64 x) := by
      induction xs with
      | nil => rfl
      | cons x xs ih => simp only [List.map_cons, List.flatten_cons, ih (by simp at hm; omega) (fun y hy => hx y (by simp [hy]))]; rfl
    rw [e1]
    show List.take _ (List.map _ xs) = _
    exact List.take_of_length_le (by rw [List.length_map]; show _ ≤ _ * 1; simp)
  · intro i x cs hi hc
    simp [hi] at hc
    subst hc
    exact ⟨rfl, hx x (List.mem_of_getElem? hi)⟩

def LevI (t : Table) (A : Option Addr) (c : Nat) (S : Nat → Prop) (w : World) (v i : Value) (wr : World) : Prop :=
  ∃ (k : Nat) (out : List Int), k ≤ t.levels.length ∧ i = .int .i64 k ∧ t.levels.any badLevel = (t.levels.drop k).any badLevel ∧ allOps t = out ++ ((t.levels.drop k).map Level.ops).flatten ∧ Below w.heap.size w wr ∧
    Blk' wr w.heap.size 24 #[.int .i64 t.terms, .int .i64 t.atom, .int .i64 t.opn, .int .i64 t.cls, .slice A t.levels.length c] ∧ Own wr S (w.heap.size + 1) 3 v out
def SeenI (tm at_ : Int) (xs : List Int) (wo : World) (v i : Value) (wr : World) : Prop :=
  ∃ (k : Nat) (seen : List Int), k ≤ xs.length ∧ i = .int .i64 k ∧ seen.length = k + 1 ∧ precScan tm [at_] xs = precScan tm seen (xs.drop k) ∧ Below wo.heap.size wo wr ∧ Own wr (fun _ => False) wo.heap.size 3 v seen

set_option maxRecDepth 100000 in
set_option maxHeartbeats 1000000 in
theorem precCheck_any (t : Table) (A : Option Addr) (c : Nat) (S : Nat → Prop) (w : World) (h64 : I64 t.terms ∧ I64 t.atom ∧ I64 t.opn ∧ I64 t.cls) (hlc : t.levels.length ≤ c) (hc : c ≤ 9223372036854775807) (hA : Els w S t.levels A) (hS : ∀ b, S b → b < w.heap.size) (hN : (allOps t).length ≤ 2000000) :
    Calls Try.prog 21 #[.agg #[.int .i64 t.terms, .int .i64 t.atom, .int .i64 t.opn, .int .i64 t.cls, .slice A t.levels.length c]] w
      fun e w' => e = .returned (.int .i64 (precCheck t)) ∧ Below w.heap.size w w' := by
  obtain ⟨tm, at_, op, cl, ls⟩ := t
  dsimp only at *
  have hba : Below w.heap.size w (w.alloc (.cells #[.int .i64 tm, .int .i64 at_, .int .i64 op, .int .i64 cl, .slice A ls.length c] 24)) := (Below.refl _ _).alloc (Nat.le_refl _) _
  have Hba := Lib.hid hba
  have HN := Lib.hid hN
  have H64 := Lib.hid h64
  clear hba hN h64
  by_cases k1 : tm < 1
  · have E := Lib.hid (show precCheck ⟨tm, at_, op, cl, ls⟩ = 1 by simp [precCheck, k1])
    go_enter Try.func21, Try.ntmps21
    go_wp2
    go_ret
    exact ⟨ret_int E.out.symm, Hba.out⟩
  by_cases k2 : 8 < tm
  · have E := Lib.hid (show precCheck ⟨tm, at_, op, cl, ls⟩ = 1 by simp [precCheck, k2])
    go_enter Try.func21, Try.ntmps21
    go_wp2
    go_ret
    exact ⟨ret_int E.out.symm, Hba.out⟩
  by_cases k3 : at_ < 0
  · have E := Lib.hid (show precCheck ⟨tm, at_, op, cl, ls⟩ = 1 by simp [precCheck, k3])
    go_enter Try.func21, Try.ntmps21
    go_wp2
    go_ret
    exact ⟨ret_int E.out.symm, Hba.out⟩
  by_cases k4 : tm ≤ at_
  · have E := Lib.hid (show precCheck ⟨tm, at_, op, cl, ls⟩ = 1 by simp [precCheck, k4])
    go_enter Try.func21, Try.ntmps21
    go_wp2
    go_ret
    exact ⟨ret_int E.out.symm, Hba.out⟩
  by_cases k5 : 6 < ls.length
  · have E := Lib.hid (show precCheck ⟨tm, at_, op, cl, ls⟩ = 2 by simp [precCheck, k1, k2, k3, k4, k5])
    go_enter Try.func21, Try.ntmps21
    go_wp2
    go_ret
    exact ⟨ret_int E.out.symm, Hba.out⟩
  have E0 : Hid (precCheck ⟨tm, at_, op, cl, ls⟩ = if ls.any badLevel then 3 else precScan tm [at_] (allOps ⟨tm, at_, op, cl, ls⟩)) := Lib.hid (by simp only [precCheck]; rw [if_neg (by omega), if_neg (by omega)])
  go_enter Try.func21, Try.ntmps21
  go_wp2_with fail
  refine (brackets_any _ tm at_ op cl ls _ ⟨_, _, _, rfl⟩).mono ?_
  rintro e w1 ⟨rfl, hb1⟩
  have Hb1 := Lib.hid (bthen Hba.out hb1 (by simp))
  have hG1 := (Blk'.new w 24 #[.int .i64 tm, .int .i64 at_, .int .i64 op, .int .i64 cl, .slice A ls.length c]).below hb1 (by simp)
  have HG1 := Lib.hid hG1
  have g12 : w1.cell? ⟨w.heap.size, 2, none⟩ = some (.int .i64 op) := hG1.cell 2
  have g13 : w1.cell? ⟨w.heap.size, 3, none⟩ = some (.int .i64 cl) := hG1.cell 3
  have g14 : w1.cell? ⟨w.heap.size, 4, none⟩ = some (.slice A ls.length c) := hG1.cell 4
  have hz1 := hG1.lt
  clear hb1 hG1
  cases hbk : brk ⟨tm, at_, op, cl, ls⟩
  obtain ⟨out0, ho0⟩ : ∃ out0 : List Int, out0 = [] := ⟨_, rfl⟩
  obtain ⟨w2, hw2⟩ : ∃ w2 : World, w2 = w1 := ⟨_, rfl⟩
  have EL : Hid (allOps ⟨tm, at_, op, cl, ls⟩ = out0 ++ (ls.map Level.ops).flatten) := Lib.hid (by rw [ho0]; simp [allOps, hbk])
  have HR := Lib.hid (show Own w2 S (w.heap.size + 1) 3 (.slice none 0 0) out0 by rw [ho0]; exact Own.nil _ _ _ _)
  have HB2 := Lib.hid (show Below w.heap.size w w2 by rw [hw2]; exact Hb1.out)
  have HG2 := Lib.hid (show Blk' w2 w.heap.size 24 #[.int .i64 tm, .int .i64 at_, .int .i64 op, .int .i64 cl, .slice A ls.length c] by rw [hw2]; exact HG1.out)
  subst hw2
  clear hbk ho0
  go_wp2
  rotate_left
  have EL : Hid (allOps ⟨tm, at_, op, cl, ls⟩ = [op, cl] ++ (ls.map Level.ops).flatten) := Lib.hid (by simp [allOps, hbk])
  have F1 : ¬ 281474976710656 < Builtin.nextslicecap 2 0 * Try.t3.bytes := by decide
  have HR0 := Lib.hid (Own.litGrown (w := w1.alloc (.cells #[.int .i64 op, .int .i64 cl] 3)) (e := 3) S (base := w.heap.size + 1) [op, cl] [[.int .i64 op], [.int .i64 cl]] #[.int .i64 0] 2 rfl rfl (by simp; omega) (by simp) rfl (rd_two ⟨rfl, H64.out.2.2.1⟩ ⟨rfl, H64.out.2.2.2⟩) w1)
  clear hbk
  go_wp2_with fail
  have hsz : (w1.alloc (.cells #[.int .i64 op, .int .i64 cl] 3)).heap.size = w1.heap.size + 1 := by simp
  have HR := Lib.hid (hsz ▸ HR0.out)
  have HB2 := Lib.hid (((Hb1.out.alloc Hb1.out.size (.cells #[.int .i64 op, .int .i64 cl] 3)).alloc (by simp; omega) (.cells ([[Value.int .i64 op], [Value.int .i64 cl]].flatten.toArray ++ Builtin.zeroCells #[.int .i64 0] ((Question.appendCap 2 0 3).cut (w1.tape w1.drawn (Question.appendCap 2 0 3)) - 2)) 3)).drew)
  have HG2 := Lib.hid (((HG1.out.alloc (.cells #[.int .i64 op, .int .i64 cl] 3)).alloc (.cells ([[Value.int .i64 op], [Value.int .i64 cl]].flatten.toArray ++ Builtin.zeroCells #[.int .i64 0] ((Question.appendCap 2 0 3).cut (w1.tape w1.drawn (Question.appendCap 2 0 3)) - 2)) 3)).drew)
  clear hsz HR0 F1
  obtain ⟨out0, ho0⟩ : ∃ out0 : List Int, out0 = [op, cl] := ⟨_, rfl⟩
  rw [← ho0] at EL HR
  all_goals
    go_loopw [3, 45] (fun v i wr => LevI ⟨tm, at_, op, cl, ls⟩ A c S w v i wr) (fun _ i _ => ls.length - (intOf i).toNat)
    case atStart => exact ⟨0, out0, Nat.zero_le _, rfl, rfl, EL.out, HB2.out, HG2.out, HR.out⟩
    case round =>
      obtain ⟨wo, hwo⟩ : ∃ wo : World, wo = wr := ⟨_, rfl⟩
      subst hwo
      obtain ⟨k, out, hk, rfl, hbad, hops, hb, hG, hown⟩ := hrel
      dsimp only at hk hbad hops
      have HB := Lib.hid hb
      have HG := Lib.hid hG
      have HO := Lib.hid hown
      have HD := Lib.hid hbad
      have HP := Lib.hid hops
      have g20 : wo.cell? ⟨w.heap.size, 0, none⟩ = some (.int .i64 tm) := hG.cell 0
      have g21 : wo.cell? ⟨w.heap.size, 1, none⟩ = some (.int .i64 at_) := hG.cell 1
      have hz2 := hG.lt
      clear hb hG hown hbad hops g12 g13 g14
      by_cases hlt : k < ls.length
      · obtain ⟨x, hx⟩ := get_some hlt
        obtain ⟨b, o, Ao, co, rfl, hSb, hbs, hi, hoc, hco, hEo, hc0, hc1⟩ := (hA.belowB HB.out hS).level hx
        have Hd := Lib.hid (drop_cons hx)
        have hk0 : (0 : Int) ≤ (k : Int) := by omega
        obtain ⟨kd, os⟩ := x
        dsimp only at *
        clear hx
        by_cases q1 : kd < 0
        · have E3 := Lib.hid (show precCheck ⟨tm, at_, op, cl, ls⟩ = 3 by rw [E0.out, HD.out, Hd.out]; simp [badLevel, q1])
          go_wp2
          go_ret
          exact ⟨ret_int E3.out.symm, HB.out.alloc HB.out.size _⟩
        by_cases q2 : 3 < kd
        · have E3 := Lib.hid (show precCheck ⟨tm, at_, op, cl, ls⟩ = 3 by rw [E0.out, HD.out, Hd.out]; simp [badLevel, q2])
          go_wp2
          go_ret
          exact ⟨ret_int E3.out.symm, HB.out.alloc HB.out.size _⟩
        by_cases q3 : os.length = 0
        · have E3 := Lib.hid (show precCheck ⟨tm, at_, op, cl, ls⟩ = 3 by rw [E0.out, HD.out, Hd.out]; simp [badLevel, List.length_eq_zero_iff.1 q3])
          rw [q3] at hc1
          go_wp2
          go_ret
          exact ⟨ret_int E3.out.symm, HB.out.alloc HB.out.size _⟩
        have E3 := Lib.hid (show ls.any badLevel = (ls.drop (k + 1)).any badLevel by rw [HD.out, Hd.out, List.any_cons]; have e : badLevel ⟨kd, os⟩ = false := by { simp [badLevel]; exact ⟨by omega, by omega, fun h => q3 (by rw [h]; rfl)⟩ }; rw [e]; rfl)
        have E4 := Lib.hid (show allOps ⟨tm, at_, op, cl, ls⟩ = (out ++ os) ++ ((ls.drop (k + 1)).map Level.ops).flatten by rw [HP.out, Hd.out]; simp)
        have hlen : out.length + os.length ≤ 2000000 := by have h := HN.out; rw [E4.out] at h; simp only [List.length_append] at h; omega
        have hcap1 : (out.length + os.length) * 8 ≤ 140737488355328 := by omega
        have hcap2 : out.length + os.length ≤ 9223372036854775807 := by omega
        clear hlen
        have HO2 := Lib.hid (HO.out.alloc (.cells #[.int .i64 kd, .slice Ao os.length co] 79))
        have HS2 : Hid (∀ b, S b → b < w.heap.size + 1) := Lib.hid (fun b hb => by have := hS b hb; omega)
        have HZ2 : Hid (w.heap.size + 1 ≤ (wo.alloc (.cells #[.int .i64 kd, .slice Ao os.length co] 79)).heap.size) := Lib.hid (by simp; omega)
        have HE2 := Lib.hid ((hEo.below ((Below.refl _ _).alloc (Nat.le_refl _) (.cells #[.int .i64 kd, .slice Ao os.length co] 79))).own HO2.out HS2.out HZ2.out)
        clear hEo
        go_wp2_with (at_builtin; refine wpList_ownMany _ rfl _ _ elemInt rfl rfl HO2.out os rfl rfl HE2.out hcap1 hcap2 HZ2.out ?_; intro v' w3 hown3 hg3 hat3; have H3 := Lib.hid (And.intro hown3 hg3); clear hown3 hg3 hat3)
        go_roundw
        case rel => exact ⟨k + 1, out ++ os, hlt, by go_num, E3.out, E4.out, bgrown (HB.out.alloc HB.out.size _) H3.out.2 HO2.out (by omega) (by have := HZ2.out; omega), (HG.out.alloc _).grown H3.out.2 (own_ne HO2.out), H3.out.1⟩
        case measure => simp [intOf]; omega
      · have EO := Lib.hid (show allOps ⟨tm, at_, op, cl, ls⟩ = out by rw [HP.out, List.drop_of_length_le (by omega)]; simp)
        have E5 := Lib.hid (show precCheck ⟨tm, at_, op, cl, ls⟩ = precScan tm [at_] out by rw [E0.out, HD.out, List.drop_of_length_le (by omega), EO.out]; rfl)
        have hlen : out.length ≤ 2000000 := by have h := HN.out; rw [EO.out] at h; exact h
        obtain ⟨Av, cv, hv, hv1, hv2, _⟩ := HO.out.form
        subst hv
        have HV := Lib.hid (HO.out.vl.keep (S' := fun b => b < wo.heap.size) (fun _ _ _ => rfl) (fun b hb => hb.2)).els
        have HI : Hid (∀ x ∈ [at_], I64 x) := Lib.hid (by intro x hx; simp at hx; subst hx; exact H64.out.2.1)
        have HB5 := Lib.hid ((Below.refl wo.heap.size wo).alloc (Nat.le_refl _) (.cells #[.int .i64 at_] 3))
        have HO5 := Lib.hid (Own.built (w := wo) (e := 3) (fun _ => False) [at_] (Nat.le_refl wo.heap.size) (by simp) HI.out)
        go_wp2
        go_loopw [6, 73] (fun v i wr => SeenI tm at_ out wo v i wr) (fun _ i _ => out.length - (intOf i).toNat)
        case atStart => exact ⟨0, [at_], Nat.zero_le _, rfl, rfl, rfl, HB5.out, HO5.out⟩
        case round =>
          obtain ⟨wi, hwi⟩ : ∃ wi : World, wi = wr := ⟨_, rfl⟩
          subst hwi
          obtain ⟨m, seen, hm, rfl, hsl, hsc, hb, hown⟩ := hrel
          have HBi := Lib.hid hb
          have HOi := Lib.hid hown
          have HSc := Lib.hid hsc
          have g30 : wi.cell? ⟨w.heap.size, 0, none⟩ = some (.int .i64 tm) := (HBi.out.cell (p := ⟨w.heap.size, 0, none⟩) (by show w.heap.size < _; omega)).trans g20
          have HBw := Lib.hid (bthen HB.out hb HB.out.size)
          clear hb hown hsc HB5 HO5
          by_cases hlm : m < out.length
          · obtain ⟨x, hx⟩ := get_some hlm
            obtain ⟨b, o, hAv, hSb, hbs, hix, hcx⟩ := (HV.out.2.2.2.belowB HBi.out (fun b hb => hb)).int hx
            subst hAv
            have Hd := Lib.hid (drop_cons hx)
            clear hx
            have hm0 : (0 : Int) ≤ (m : Int) := by omega
            by_cases q1 : x < 0
            · have E6 := Lib.hid (show precCheck ⟨tm, at_, op, cl, ls⟩ = 1 by rw [E5.out, HSc.out, Hd.out]; simp [precScan, q1])
              go_wp2
              go_ret
              exact ⟨ret_int E6.out.symm, HBw.out⟩
            by_cases q2 : tm ≤ x
            · have E6 := Lib.hid (show precCheck ⟨tm, at_, op, cl, ls⟩ = 1 by rw [E5.out, HSc.out, Hd.out]; simp [precScan, q2])
              go_wp2
              go_ret
              exact ⟨ret_int E6.out.symm, HBw.out⟩
            obtain ⟨As, cs, hv, hv1, hv2, _⟩ := HOi.out.form
            subst hv
            have hmx : seen.length ≤ 9223372036854775807 := by omega
            have HVs := Lib.hid (HOi.out.vl.keep (S' := fun b => b < wi.heap.size) (fun _ _ _ => rfl) (fun b hb => hb.2)).els
            have HIx : Hid (I64 x) := Lib.hid hix
            have hcap1 : (seen.length + 1) * 8 ≤ 140737488355328 := by omega
            have hcap2 : seen.length + 1 ≤ 9223372036854775807 := by omega
            have HSl := Lib.hid hsl
            clear hsl
            go_wp2_with fail
            refine (containsInt_any As _ cs seen x _ _ rfl hmx HVs.out.2.2.2).mono ?_
            rintro e w6 ⟨rfl, hw6⟩
            subst hw6
            by_cases q3 : x ∈ seen
            · have E6 := Lib.hid (show precCheck ⟨tm, at_, op, cl, ls⟩ = 6 by rw [E5.out, HSc.out, Hd.out]; simp [precScan, q1, q2, q3])
              rw [decide_eq_true q3]
              go_wp2
              go_ret
              exact ⟨ret_int E6.out.symm, HBw.out⟩
            · have E6 := Lib.hid (show precScan tm [at_] out = precScan tm (seen ++ [x]) (out.drop (m + 1)) by rw [HSc.out, Hd.out, precScan, if_neg (by omega), if_neg q3])
              rw [decide_eq_false q3]
              have HZ : Hid (wo.heap.size ≤ (wi.alloc (.cells #[.int .i64 x] 3)).heap.size) := Lib.hid (Nat.le_trans HBi.out.size ((Below.refl _ _).alloc (Nat.le_refl _) _).size)
              go_wp2_with (at_builtin; refine wpList_own1 _ rfl _ _ elemInt rfl rfl (HOi.out.alloc _) x [.int .i64 x] rfl (At.new _ _ _) ⟨rfl, HIx.out⟩ hcap1 hcap2 HZ.out ?_; intro v' w7 hown7 hg7 hat7; have H7 := Lib.hid (And.intro hown7 hg7); clear hown7 hg7 hat7)
              go_roundw
              case rel => exact ⟨m + 1, seen ++ [x], hlm, by go_num, (by have := HSl.out; simp; omega), E6.out, bgrown (HBi.out.alloc HBi.out.size _) H7.out.2 (HOi.out.alloc _) (Nat.le_refl _) HZ.out, H7.out.1⟩
              case measure => simp [intOf]; omega
          · have E6 := Lib.hid (show precCheck ⟨tm, at_, op, cl, ls⟩ = 0 by rw [E5.out, HSc.out, List.drop_of_length_le (by omega)]; rfl)
            go_wp2
            go_ret
            exact ⟨ret_int E6.out.symm, HBw.out⟩
end Go.Proofs.Ytpcjfgikicpioaa
