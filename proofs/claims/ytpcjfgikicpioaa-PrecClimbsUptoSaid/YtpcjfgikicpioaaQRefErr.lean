/- Contract: parlref2.PrecErr. -/
import Derived.Test.YtpcjfgikicpioaaQPrecCheck
import Derived.Deep.DeepCutAuto
namespace Go.Proofs.Ytpcjfgikicpioaa
open Go.RowKit
set_option linter.unusedVariables false

def cnt (seen : List Int) (i : Nat) : Int := if (i : Int) ∈ seen then 1 else 0
def cells8 (seen : List Int) : Array Value := ((List.range 8).map fun i => Value.int .i64 (cnt seen i)).toArray
theorem cells8_get (seen : List Int) (i : Nat) (h : i < 8) : (cells8 seen)[i]? = some (.int .i64 (cnt seen i)) := by
  simp [cells8, h]
theorem cells8_nil : cells8 [] = #[.int .i64 0, .int .i64 0, .int .i64 0, .int .i64 0, .int .i64 0, .int .i64 0, .int .i64 0, .int .i64 0] := by simp [cells8, cnt, List.range, List.range.loop]
theorem cells8_set (seen : List Int) (i : Nat) (h : i < 8) : (cells8 seen).setIfInBounds i (.int .i64 1) = cells8 (seen ++ [(i : Int)]) := by
  apply Array.ext_getElem?
  intro j
  by_cases hj : j < 8
  · rw [cells8_get _ j hj, Array.getElem?_setIfInBounds]
    by_cases e : i = j
    · subst e; simp [cnt, cells8, h]
    · have e' : ¬ ((j : Int) = (i : Int)) := by omega
      rw [if_neg e, cells8_get _ j hj]; simp [cnt, e']
  · rw [Array.getElem?_eq_none (by simp [cells8]; omega), Array.getElem?_eq_none (by simp [cells8]; omega)]
def SeenE (tm at_ : Int) (xs : List Int) (wo : World) (i : Value) (wr : World) : Prop :=
  ∃ (m : Nat) (seen : List Int), m ≤ xs.length ∧ i = .int .i64 m ∧ precScan tm [at_] xs = precScan tm seen (xs.drop m) ∧ Below wo.heap.size wo wr ∧ Blk' wr wo.heap.size 80 (cells8 seen)
theorem wrap_succ_ne {c : Int} (h : I64 c) (hc : c ≠ -1) : wrap64 (c + 1) ≠ 0 := by
  obtain ⟨h1, h2⟩ := h
  unfold wrap64
  omega

set_option maxRecDepth 100000 in
set_option maxHeartbeats 2000000 in
theorem precErr_any (t : Table) (A : Option Addr) (c : Nat) (S : Nat → Prop) (w : World) (h64 : I64 t.terms ∧ I64 t.atom ∧ I64 t.opn ∧ I64 t.cls) (hlc : t.levels.length ≤ c) (hc : c ≤ 9223372036854775807) (hA : Els w S t.levels A) (hS : ∀ b, S b → b < w.heap.size) (hN : (allOps t).length ≤ 2000000) :
    Calls Try.prog 8 #[.agg #[.int .i64 t.terms, .int .i64 t.atom, .int .i64 t.opn, .int .i64 t.cls, .slice A t.levels.length c]] w
      fun e w' => e = .returned (.int .i64 (precCheck t)) ∧ Below w.heap.size w w' := by
  obtain ⟨tm, at_, op, cl, ls⟩ := t
  dsimp only at *
  have hba : Below w.heap.size w (w.alloc (.cells #[.int .i64 tm, .int .i64 at_, .int .i64 op, .int .i64 cl, .slice A ls.length c] 24)) := (Below.refl _ _).alloc (Nat.le_refl _) _
  have Hba := Lib.hid hba
  have HN := Lib.hid hN
  have H64 := Lib.hid h64
  clear hba hN h64
  by_cases k1 : tm < 1
  · have E := Lib.hid (show precCheck ⟨tm, at_, op, cl, ls⟩ = 1 by simp [precCheck, k1])
    go_enter Try.func8, Try.ntmps8
    go_wp2
    go_ret
    exact ⟨ret_int E.out.symm, Hba.out⟩
  by_cases k2 : 8 < tm
  · have E := Lib.hid (show precCheck ⟨tm, at_, op, cl, ls⟩ = 1 by simp [precCheck, k2])
    go_enter Try.func8, Try.ntmps8
    go_wp2
    go_ret
    exact ⟨ret_int E.out.symm, Hba.out⟩
  by_cases k3 : at_ < 0
  · have E := Lib.hid (show precCheck ⟨tm, at_, op, cl, ls⟩ = 1 by simp [precCheck, k3])
    go_enter Try.func8, Try.ntmps8
    go_wp2
    go_ret
    exact ⟨ret_int E.out.symm, Hba.out⟩
  have j1 : 1 ≤ tm := by omega
  have j2 : tm ≤ 8 := by omega
  have j3 : 0 ≤ at_ := by omega
  by_cases k4 : tm ≤ at_
  · have E := Lib.hid (show precCheck ⟨tm, at_, op, cl, ls⟩ = 1 by simp [precCheck, k4])
    have k4' : tm - 1 < at_ := by omega
    go_enter Try.func8, Try.ntmps8
    go_wp2
    go_ret
    exact ⟨ret_int E.out.symm, Hba.out⟩
  have k4' : ¬ tm - 1 < at_ := by omega
  by_cases k5 : 6 < ls.length
  · have E := Lib.hid (show precCheck ⟨tm, at_, op, cl, ls⟩ = 2 by simp [precCheck, k1, k2, k3, k4, k5])
    go_enter Try.func8, Try.ntmps8
    go_wp2
    go_ret
    exact ⟨ret_int E.out.symm, Hba.out⟩
  have E0 : Hid (precCheck ⟨tm, at_, op, cl, ls⟩ = if ls.any badLevel then 3 else precScan tm [at_] (allOps ⟨tm, at_, op, cl, ls⟩)) := Lib.hid (by simp only [precCheck]; rw [if_neg (by omega), if_neg (by omega)])
  go_enter Try.func8, Try.ntmps8
  go_upto_region 6 with fail
  go_cut [43] (fun v wx => wx = w.alloc (.cells #[.int .i64 tm, .int .i64 at_, .int .i64 op, .int .i64 cl, .slice A ls.length c] 24) ∧ Hid (v = .bool (brk ⟨tm, at_, op, cl, ls⟩)))
  case first =>
    by_cases p1 : op = -1
    · subst p1
      by_cases p2 : cl = -1
      · subst p2
        go_wp2_with fail
        go_meet
        exact ⟨rfl, Lib.hid (by simp [brk])⟩
      · have q : (wrap64 (cl + 1) != 0) = true := by have := wrap_succ_ne H64.out.2.2.2 p2; simpa using this
        have hbk := Lib.hid (show brk ⟨tm, at_, -1, cl, ls⟩ = true by simp [brk, p2])
        clear p2
        go_wp2_with fail
        go_meet
        exact ⟨rfl, Lib.hid (by rw [hbk.out])⟩
    · have q : (wrap64 (op + 1) != 0) = true := by have := wrap_succ_ne H64.out.2.2.1 p1; simpa using this
      have hbk := Lib.hid (show brk ⟨tm, at_, op, cl, ls⟩ = true by simp [brk, p1])
      clear p1
      go_wp2_with fail
      go_meet
      exact ⟨rfl, Lib.hid (by rw [hbk.out])⟩
  case rest =>
    obtain ⟨rfl, HV⟩ := hcut
    have HG1 := Lib.hid (Blk'.new w 24 #[.int .i64 tm, .int .i64 at_, .int .i64 op, .int .i64 cl, .slice A ls.length c])
    cases hbk : brk ⟨tm, at_, op, cl, ls⟩
    · have hv := HV.out
      rw [hbk] at hv
      subst hv
      have EL : Hid (allOps ⟨tm, at_, op, cl, ls⟩ = [] ++ (ls.map Level.ops).flatten) := Lib.hid (by simp [allOps, hbk])
      have HR := Lib.hid (Own.nil (α := Int) (w.alloc (.cells #[.int .i64 tm, .int .i64 at_, .int .i64 op, .int .i64 cl, .slice A ls.length c] 24)) S (w.heap.size + 1) 3)
      have HB2 := Hba
      have HG2 := HG1
      clear hbk HV
      go_wp2_with fail
      go_loopw [3, 52] (fun v i wr => LevI ⟨tm, at_, op, cl, ls⟩ A c S w v i wr) (fun _ i _ => ls.length - (intOf i).toNat)
      case atStart => exact ⟨0, [], Nat.zero_le _, rfl, rfl, EL.out, HB2.out, HG2.out, HR.out⟩
      case round =>
        obtain ⟨wo, hwo⟩ : ∃ wo : World, wo = wr := ⟨_, rfl⟩
        subst hwo
        obtain ⟨k, out, hk, rfl, hbad, hops, hb, hG, hown⟩ := hrel
        dsimp only at hk hbad hops
        have HB := Lib.hid hb
        have HG := Lib.hid hG
        have HO := Lib.hid hown
        have HD := Lib.hid hbad
        have HP := Lib.hid hops
        have g20 : wo.cell? ⟨w.heap.size, 0, none⟩ = some (.int .i64 tm) := hG.cell 0
        have g21 : wo.cell? ⟨w.heap.size, 1, none⟩ = some (.int .i64 at_) := hG.cell 1
        have hz2 := hG.lt
        clear hb hG hown hbad hops
        by_cases hlt : k < ls.length
        · obtain ⟨x, hx⟩ := get_some hlt
          obtain ⟨b, o, Ao, co, rfl, hSb, hbs, hi, hoc, hco, hEo, hc0, hc1⟩ := (hA.belowB HB.out hS).level hx
          have Hd := Lib.hid (drop_cons hx)
          have hk0 : (0 : Int) ≤ (k : Int) := by omega
          obtain ⟨kd, os⟩ := x
          dsimp only at *
          clear hx
          by_cases q1 : kd < 0
          · have E3 := Lib.hid (show precCheck ⟨tm, at_, op, cl, ls⟩ = 3 by rw [E0.out, HD.out, Hd.out]; simp [badLevel, q1])
            go_wp2
            go_ret
            exact ⟨ret_int E3.out.symm, HB.out.alloc HB.out.size _⟩
          by_cases q2 : 3 < kd
          · have E3 := Lib.hid (show precCheck ⟨tm, at_, op, cl, ls⟩ = 3 by rw [E0.out, HD.out, Hd.out]; simp [badLevel, q2])
            go_wp2
            go_ret
            exact ⟨ret_int E3.out.symm, HB.out.alloc HB.out.size _⟩
          by_cases q3 : os.length = 0
          · have E3 := Lib.hid (show precCheck ⟨tm, at_, op, cl, ls⟩ = 3 by rw [E0.out, HD.out, Hd.out]; simp [badLevel, List.length_eq_zero_iff.1 q3])
            rw [q3] at hc1
            go_wp2
            go_ret
            exact ⟨ret_int E3.out.symm, HB.out.alloc HB.out.size _⟩
          have E3 := Lib.hid (show ls.any badLevel = (ls.drop (k + 1)).any badLevel by rw [HD.out, Hd.out, List.any_cons]; have e : badLevel ⟨kd, os⟩ = false := by { simp [badLevel]; exact ⟨by omega, by omega, fun h => q3 (by rw [h]; rfl)⟩ }; rw [e]; rfl)
          have E4 := Lib.hid (show allOps ⟨tm, at_, op, cl, ls⟩ = (out ++ os) ++ ((ls.drop (k + 1)).map Level.ops).flatten by rw [HP.out, Hd.out]; simp)
          have hlen : out.length + os.length ≤ 2000000 := by have h := HN.out; rw [E4.out] at h; simp only [List.length_append] at h; omega
          have hcap1 : (out.length + os.length) * 8 ≤ 140737488355328 := by omega
          have hcap2 : out.length + os.length ≤ 9223372036854775807 := by omega
          clear hlen
          have q4 : ¬ (os.length : Int) < 1 := by omega
          have HO2 := Lib.hid (HO.out.alloc (.cells #[.int .i64 kd, .slice Ao os.length co] 79))
          have HS2 : Hid (∀ b, S b → b < w.heap.size + 1) := Lib.hid (fun b hb => by have := hS b hb; omega)
          have HZ2 : Hid (w.heap.size + 1 ≤ (wo.alloc (.cells #[.int .i64 kd, .slice Ao os.length co] 79)).heap.size) := Lib.hid (by simp; omega)
          have HE2 := Lib.hid ((hEo.below ((Below.refl _ _).alloc (Nat.le_refl _) (.cells #[.int .i64 kd, .slice Ao os.length co] 79))).own HO2.out HS2.out HZ2.out)
          clear hEo
          go_wp2_with (at_builtin; refine wpList_ownMany _ rfl _ _ elemInt rfl rfl HO2.out os rfl rfl HE2.out hcap1 hcap2 HZ2.out ?_; intro v' w3 hown3 hg3 hat3; have H3 := Lib.hid (And.intro hown3 hg3); clear hown3 hg3 hat3)
          go_roundw
          case rel => exact ⟨k + 1, out ++ os, hlt, by go_num, E3.out, E4.out, bgrown (HB.out.alloc HB.out.size _) H3.out.2 HO2.out (by omega) (by have := HZ2.out; omega), (HG.out.alloc _).grown H3.out.2 (own_ne HO2.out), H3.out.1⟩
          case measure => simp [intOf]; omega
        · have EO := Lib.hid (show allOps ⟨tm, at_, op, cl, ls⟩ = out by rw [HP.out, List.drop_of_length_le (by omega)]; simp)
          have E5 := Lib.hid (show precCheck ⟨tm, at_, op, cl, ls⟩ = precScan tm [at_] out by rw [E0.out, HD.out, List.drop_of_length_le (by omega), EO.out]; rfl)
          have hlen : out.length ≤ 2000000 := by have h := HN.out; rw [EO.out] at h; exact h
          obtain ⟨Av, cv, hv, hv1, hv2, _⟩ := HO.out.form
          subst hv
          have HV := Lib.hid (HO.out.vl.keep (S' := fun b => b < wo.heap.size) (fun _ _ _ => rfl) (fun b hb => hb.2)).els
          have j4 : at_ < 8 := by omega
          have HI : Hid (∀ x ∈ [at_], I64 x) := Lib.hid (by intro x hx; simp at hx; subst hx; exact H64.out.2.1)
          have j5 : at_.toNat < 8 := by omega
          go_upto_region 16 with fail
          obtain ⟨ws, hws⟩ : ∃ ws : World, ws = wo.alloc (.cells #[.int .i64 0, .int .i64 0, .int .i64 0, .int .i64 0, .int .i64 0, .int .i64 0, .int .i64 0, .int .i64 0] 80) := ⟨_, rfl⟩
          rw [← hws]
          have hbs : Below wo.heap.size wo ws := by rw [hws]; exact (Below.refl _ _).alloc (Nat.le_refl _) _
          have hAs : Blk' ws wo.heap.size 80 (cells8 []) := by rw [hws, cells8_nil]; exact Blk'.new _ _ _
          clear hws
          have s0 : ws.cell? ⟨wo.heap.size, at_.toNat, none⟩ = some (.int .i64 0) := (hAs.cell _).trans (cells8_get _ _ j5)
          have sf := hAs.frozen at_.toNat
          have s1 : ws.cell? ⟨w.heap.size, 1, none⟩ = some (.int .i64 at_) := (hbs.cell (p := ⟨w.heap.size, 1, none⟩) hz2).trans g21
          have HAs := Lib.hid (hAs.set_ at_.toNat (.int .i64 1))
          have HBs := Lib.hid (hbs.setCell (p := ⟨wo.heap.size, at_.toNat, none⟩) (Nat.le_refl _) (.int .i64 1))
          have hat : ((at_.toNat : Nat) : Int) = at_ := Int.toNat_of_nonneg j3
          have HA8 := Lib.hid (show Blk' (ws.setCell ⟨wo.heap.size, at_.toNat, none⟩ (.int .i64 1)) wo.heap.size 80 (cells8 [at_]) by have h := HAs.out; rw [cells8_set _ _ j5, hat] at h; exact h)
          clear hbs hAs hat
          go_wp2_with fail
          go_loopw [83] (fun i wr => SeenE tm at_ out wo i wr) (fun i _ => out.length - (intOf i).toNat)
          case atStart => exact ⟨0, [at_], Nat.zero_le _, rfl, rfl, HBs.out, HA8.out⟩
          case round =>
            obtain ⟨wi, hwi⟩ : ∃ wi : World, wi = wr := ⟨_, rfl⟩
            subst hwi
            obtain ⟨m, seen, hm, rfl, hsc, hb, hA8⟩ := hrel
            have HBi := Lib.hid hb
            have HSc := Lib.hid hsc
            have HAi := Lib.hid hA8
            have g30 : wi.cell? ⟨w.heap.size, 0, none⟩ = some (.int .i64 tm) := (HBi.out.cell (p := ⟨w.heap.size, 0, none⟩) (by show w.heap.size < _; omega)).trans g20
            have HBw := Lib.hid (bthen HB.out hb HB.out.size)
            clear hb hsc hA8 HBs HAs HA8 s0 sf s1
            by_cases hlm : m < out.length
            · obtain ⟨x, hx⟩ := get_some hlm
              obtain ⟨b, o, hAv, hSb, hbs, hix, hcx⟩ := (HV.out.2.2.2.belowB HBi.out (fun b hb => hb)).int hx
              subst hAv
              have Hd := Lib.hid (drop_cons hx)
              clear hx
              have hm0 : (0 : Int) ≤ (m : Int) := by omega
              by_cases q1 : x < 0
              · have E6 := Lib.hid (show precCheck ⟨tm, at_, op, cl, ls⟩ = 1 by rw [E5.out, HSc.out, Hd.out]; simp [precScan, q1])
                go_wp2
                go_ret
                exact ⟨ret_int E6.out.symm, HBw.out⟩
              have q1' : 0 ≤ x := by omega
              by_cases q2 : tm ≤ x
              · have E6 := Lib.hid (show precCheck ⟨tm, at_, op, cl, ls⟩ = 1 by rw [E5.out, HSc.out, Hd.out]; simp [precScan, q2])
                have q2' : tm - 1 < x := by omega
                go_wp2
                go_ret
                exact ⟨ret_int E6.out.symm, HBw.out⟩
              have q2' : ¬ tm - 1 < x := by omega
              have q8 : x < 8 := by omega
              have q8n : x.toNat < 8 := by omega
              have hxn : ((x.toNat : Nat) : Int) = x := Int.toNat_of_nonneg q1'
              have sf := HAi.out.frozen x.toNat
              by_cases q3 : x ∈ seen
              · have E6 := Lib.hid (show precCheck ⟨tm, at_, op, cl, ls⟩ = 6 by rw [E5.out, HSc.out, Hd.out]; simp [precScan, q1, q2, q3])
                have s0 : wi.cell? ⟨wo.heap.size, x.toNat, none⟩ = some (.int .i64 1) := (HAi.out.cell _).trans (by rw [cells8_get _ _ q8n]; simp [cnt, hxn, q3])
                clear q3 hxn
                go_wp2
                go_ret
                exact ⟨ret_int E6.out.symm, HBw.out.setCell HB.out.size _⟩
              · have E6 := Lib.hid (show precScan tm [at_] out = precScan tm (seen ++ [x]) (out.drop (m + 1)) by rw [HSc.out, Hd.out, precScan, if_neg (by omega), if_neg q3])
                have s0 : wi.cell? ⟨wo.heap.size, x.toNat, none⟩ = some (.int .i64 0) := (HAi.out.cell _).trans (by rw [cells8_get _ _ q8n]; simp [cnt, hxn, q3])
                have HZ := Lib.hid (show Blk' (wi.setCell ⟨wo.heap.size, x.toNat, none⟩ (.int .i64 1)) wo.heap.size 80 (cells8 (seen ++ [x])) by have h := HAi.out.set_ x.toNat (.int .i64 1); rw [cells8_set _ _ q8n, hxn] at h; exact h)
                clear q3 hxn
                go_wp2
                go_roundw
                case rel => exact ⟨m + 1, seen ++ [x], hlm, by go_num, E6.out, HBi.out.setCell (Nat.le_refl _) _, HZ.out⟩
                case measure => simp [intOf]; omega
            · have E6 := Lib.hid (show precCheck ⟨tm, at_, op, cl, ls⟩ = 0 by rw [E5.out, HSc.out, List.drop_of_length_le (by omega)]; rfl)
              go_wp2
              go_ret
              exact ⟨ret_int E6.out.symm, HBw.out⟩
    · have hv := HV.out
      rw [hbk] at hv
      subst hv
      have EL : Hid (allOps ⟨tm, at_, op, cl, ls⟩ = [op, cl] ++ (ls.map Level.ops).flatten) := Lib.hid (by simp [allOps, hbk])
      have HI2 : Hid (∀ x ∈ [op, cl], I64 x) := Lib.hid (by intro x hx; simp at hx; rcases hx with h | h <;> subst h <;> first | exact H64.out.2.2.1 | exact H64.out.2.2.2)
      have HR0 := Lib.hid (Own.built (w := w.alloc (.cells #[.int .i64 tm, .int .i64 at_, .int .i64 op, .int .i64 cl, .slice A ls.length c] 24)) (e := 3) S (base := w.heap.size + 1) [op, cl] (by simp) (by simp) HI2.out)
      have hsz : (w.alloc (.cells #[.int .i64 tm, .int .i64 at_, .int .i64 op, .int .i64 cl, .slice A ls.length c] 24)).heap.size = w.heap.size + 1 := by simp
      have HR := Lib.hid (hsz ▸ HR0.out)
      have HB2 := Lib.hid (Hba.out.alloc (by simp) (.cells ([op, cl].map (fun x => Value.int .i64 x)).toArray 3))
      have HG2 := Lib.hid (HG1.out.alloc (.cells ([op, cl].map (fun x => Value.int .i64 x)).toArray 3))
      clear hbk HV hsz HR0 HI2
      go_wp2_with fail
      go_loopw [3, 52] (fun v i wr => LevI ⟨tm, at_, op, cl, ls⟩ A c S w v i wr) (fun _ i _ => ls.length - (intOf i).toNat)
      case atStart => exact ⟨0, [op, cl], Nat.zero_le _, rfl, rfl, EL.out, HB2.out, HG2.out, HR.out⟩
      case round =>
        obtain ⟨wo, hwo⟩ : ∃ wo : World, wo = wr := ⟨_, rfl⟩
        subst hwo
        obtain ⟨k, out, hk, rfl, hbad, hops, hb, hG, hown⟩ := hrel
        dsimp only at hk hbad hops
        have HB := Lib.hid hb
        have HG := Lib.hid hG
        have HO := Lib.hid hown
        have HD := Lib.hid hbad
        have HP := Lib.hid hops
        have g20 : wo.cell? ⟨w.heap.size, 0, none⟩ = some (.int .i64 tm) := hG.cell 0
        have g21 : wo.cell? ⟨w.heap.size, 1, none⟩ = some (.int .i64 at_) := hG.cell 1
        have hz2 := hG.lt
        clear hb hG hown hbad hops
        by_cases hlt : k < ls.length
        · obtain ⟨x, hx⟩ := get_some hlt
          obtain ⟨b, o, Ao, co, rfl, hSb, hbs, hi, hoc, hco, hEo, hc0, hc1⟩ := (hA.belowB HB.out hS).level hx
          have Hd := Lib.hid (drop_cons hx)
          have hk0 : (0 : Int) ≤ (k : Int) := by omega
          obtain ⟨kd, os⟩ := x
          dsimp only at *
          clear hx
          by_cases q1 : kd < 0
          · have E3 := Lib.hid (show precCheck ⟨tm, at_, op, cl, ls⟩ = 3 by rw [E0.out, HD.out, Hd.out]; simp [badLevel, q1])
            go_wp2
            go_ret
            exact ⟨ret_int E3.out.symm, HB.out.alloc HB.out.size _⟩
          by_cases q2 : 3 < kd
          · have E3 := Lib.hid (show precCheck ⟨tm, at_, op, cl, ls⟩ = 3 by rw [E0.out, HD.out, Hd.out]; simp [badLevel, q2])
            go_wp2
            go_ret
            exact ⟨ret_int E3.out.symm, HB.out.alloc HB.out.size _⟩
          by_cases q3 : os.length = 0
          · have E3 := Lib.hid (show precCheck ⟨tm, at_, op, cl, ls⟩ = 3 by rw [E0.out, HD.out, Hd.out]; simp [badLevel, List.length_eq_zero_iff.1 q3])
            rw [q3] at hc1
            go_wp2
            go_ret
            exact ⟨ret_int E3.out.symm, HB.out.alloc HB.out.size _⟩
          have E3 := Lib.hid (show ls.any badLevel = (ls.drop (k + 1)).any badLevel by rw [HD.out, Hd.out, List.any_cons]; have e : badLevel ⟨kd, os⟩ = false := by { simp [badLevel]; exact ⟨by omega, by omega, fun h => q3 (by rw [h]; rfl)⟩ }; rw [e]; rfl)
          have E4 := Lib.hid (show allOps ⟨tm, at_, op, cl, ls⟩ = (out ++ os) ++ ((ls.drop (k + 1)).map Level.ops).flatten by rw [HP.out, Hd.out]; simp)
          have hlen : out.length + os.length ≤ 2000000 := by have h := HN.out; rw [E4.out] at h; simp only [List.length_append] at h; omega
          have hcap1 : (out.length + os.length) * 8 ≤ 140737488355328 := by omega
          have hcap2 : out.length + os.length ≤ 9223372036854775807 := by omega
          clear hlen
          have q4 : ¬ (os.length : Int) < 1 := by omega
          have HO2 := Lib.hid (HO.out.alloc (.cells #[.int .i64 kd, .slice Ao os.length co] 79))
          have HS2 : Hid (∀ b, S b → b < w.heap.size + 1) := Lib.hid (fun b hb => by have := hS b hb; omega)
          have HZ2 : Hid (w.heap.size + 1 ≤ (wo.alloc (.cells #[.int .i64 kd, .slice Ao os.length co] 79)).heap.size) := Lib.hid (by simp; omega)
          have HE2 := Lib.hid ((hEo.below ((Below.refl _ _).alloc (Nat.le_refl _) (.cells #[.int .i64 kd, .slice Ao os.length co] 79))).own HO2.out HS2.out HZ2.out)
          clear hEo
          go_wp2_with (at_builtin; refine wpList_ownMany _ rfl _ _ elemInt rfl rfl HO2.out os rfl rfl HE2.out hcap1 hcap2 HZ2.out ?_; intro v' w3 hown3 hg3 hat3; have H3 := Lib.hid (And.intro hown3 hg3); clear hown3 hg3 hat3)
          go_roundw
          case rel => exact ⟨k + 1, out ++ os, hlt, by go_num, E3.out, E4.out, bgrown (HB.out.alloc HB.out.size _) H3.out.2 HO2.out (by omega) (by have := HZ2.out; omega), (HG.out.alloc _).grown H3.out.2 (own_ne HO2.out), H3.out.1⟩
          case measure => simp [intOf]; omega
        · have EO := Lib.hid (show allOps ⟨tm, at_, op, cl, ls⟩ = out by rw [HP.out, List.drop_of_length_le (by omega)]; simp)
          have E5 := Lib.hid (show precCheck ⟨tm, at_, op, cl, ls⟩ = precScan tm [at_] out by rw [E0.out, HD.out, List.drop_of_length_le (by omega), EO.out]; rfl)
          have hlen : out.length ≤ 2000000 := by have h := HN.out; rw [EO.out] at h; exact h
          obtain ⟨Av, cv, hv, hv1, hv2, _⟩ := HO.out.form
          subst hv
          have HV := Lib.hid (HO.out.vl.keep (S' := fun b => b < wo.heap.size) (fun _ _ _ => rfl) (fun b hb => hb.2)).els
          have j4 : at_ < 8 := by omega
          have HI : Hid (∀ x ∈ [at_], I64 x) := Lib.hid (by intro x hx; simp at hx; subst hx; exact H64.out.2.1)
          have j5 : at_.toNat < 8 := by omega
          go_upto_region 16 with fail
          obtain ⟨ws, hws⟩ : ∃ ws : World, ws = wo.alloc (.cells #[.int .i64 0, .int .i64 0, .int .i64 0, .int .i64 0, .int .i64 0, .int .i64 0, .int .i64 0, .int .i64 0] 80) := ⟨_, rfl⟩
          rw [← hws]
          have hbs : Below wo.heap.size wo ws := by rw [hws]; exact (Below.refl _ _).alloc (Nat.le_refl _) _
          have hAs : Blk' ws wo.heap.size 80 (cells8 []) := by rw [hws, cells8_nil]; exact Blk'.new _ _ _
          clear hws
          have s0 : ws.cell? ⟨wo.heap.size, at_.toNat, none⟩ = some (.int .i64 0) := (hAs.cell _).trans (cells8_get _ _ j5)
          have sf := hAs.frozen at_.toNat
          have s1 : ws.cell? ⟨w.heap.size, 1, none⟩ = some (.int .i64 at_) := (hbs.cell (p := ⟨w.heap.size, 1, none⟩) hz2).trans g21
          have HAs := Lib.hid (hAs.set_ at_.toNat (.int .i64 1))
          have HBs := Lib.hid (hbs.setCell (p := ⟨wo.heap.size, at_.toNat, none⟩) (Nat.le_refl _) (.int .i64 1))
          have hat : ((at_.toNat : Nat) : Int) = at_ := Int.toNat_of_nonneg j3
          have HA8 := Lib.hid (show Blk' (ws.setCell ⟨wo.heap.size, at_.toNat, none⟩ (.int .i64 1)) wo.heap.size 80 (cells8 [at_]) by have h := HAs.out; rw [cells8_set _ _ j5, hat] at h; exact h)
          clear hbs hAs hat
          go_wp2_with fail
          go_loopw [83] (fun i wr => SeenE tm at_ out wo i wr) (fun i _ => out.length - (intOf i).toNat)
          case atStart => exact ⟨0, [at_], Nat.zero_le _, rfl, rfl, HBs.out, HA8.out⟩
          case round =>
            obtain ⟨wi, hwi⟩ : ∃ wi : World, wi = wr := ⟨_, rfl⟩
            subst hwi
            obtain ⟨m, seen, hm, rfl, hsc, hb, hA8⟩ := hrel
            have HBi := Lib.hid hb
            have HSc := Lib.hid hsc
            have HAi := Lib.hid hA8
            have g30 : wi.cell? ⟨w.heap.size, 0, none⟩ = some (.int .i64 tm) := (HBi.out.cell (p := ⟨w.heap.size, 0, none⟩) (by show w.heap.size < _; omega)).trans g20
            have HBw := Lib.hid (bthen HB.out hb HB.out.size)
            clear hb hsc hA8 HBs HAs HA8 s0 sf s1
            by_cases hlm : m < out.length
            · obtain ⟨x, hx⟩ := get_some hlm
              obtain ⟨b, o, hAv, hSb, hbs, hix, hcx⟩ := (HV.out.2.2.2.belowB HBi.out (fun b hb => hb)).int hx
              subst hAv
              have Hd := Lib.hid (drop_cons hx)
              clear hx
              have hm0 : (0 : Int) ≤ (m : Int) := by omega
              by_cases q1 : x < 0
              · have E6 := Lib.hid (show precCheck ⟨tm, at_, op, cl, ls⟩ = 1 by rw [E5.out, HSc.out, Hd.out]; simp [precScan, q1])
                go_wp2
                go_ret
                exact ⟨ret_int E6.out.symm, HBw.out⟩
              have q1' : 0 ≤ x := by omega
              by_cases q2 : tm ≤ x
              · have E6 := Lib.hid (show precCheck ⟨tm, at_, op, cl, ls⟩ = 1 by rw [E5.out, HSc.out, Hd.out]; simp [precScan, q2])
                have q2' : tm - 1 < x := by omega
                go_wp2
                go_ret
                exact ⟨ret_int E6.out.symm, HBw.out⟩
              have q2' : ¬ tm - 1 < x := by omega
              have q8 : x < 8 := by omega
              have q8n : x.toNat < 8 := by omega
              have hxn : ((x.toNat : Nat) : Int) = x := Int.toNat_of_nonneg q1'
              have sf := HAi.out.frozen x.toNat
              by_cases q3 : x ∈ seen
              · have E6 := Lib.hid (show precCheck ⟨tm, at_, op, cl, ls⟩ = 6 by rw [E5.out, HSc.out, Hd.out]; simp [precScan, q1, q2, q3])
                have s0 : wi.cell? ⟨wo.heap.size, x.toNat, none⟩ = some (.int .i64 1) := (HAi.out.cell _).trans (by rw [cells8_get _ _ q8n]; simp [cnt, hxn, q3])
                clear q3 hxn
                go_wp2
                go_ret
                exact ⟨ret_int E6.out.symm, HBw.out.setCell HB.out.size _⟩
              · have E6 := Lib.hid (show precScan tm [at_] out = precScan tm (seen ++ [x]) (out.drop (m + 1)) by rw [HSc.out, Hd.out, precScan, if_neg (by omega), if_neg q3])
                have s0 : wi.cell? ⟨wo.heap.size, x.toNat, none⟩ = some (.int .i64 0) := (HAi.out.cell _).trans (by rw [cells8_get _ _ q8n]; simp [cnt, hxn, q3])
                have HZ := Lib.hid (show Blk' (wi.setCell ⟨wo.heap.size, x.toNat, none⟩ (.int .i64 1)) wo.heap.size 80 (cells8 (seen ++ [x])) by have h := HAi.out.set_ x.toNat (.int .i64 1); rw [cells8_set _ _ q8n, hxn] at h; exact h)
                clear q3 hxn
                go_wp2
                go_roundw
                case rel => exact ⟨m + 1, seen ++ [x], hlm, by go_num, E6.out, HBi.out.setCell (Nat.le_refl _) _, HZ.out⟩
                case measure => simp [intOf]; omega
            · have E6 := Lib.hid (show precCheck ⟨tm, at_, op, cl, ls⟩ = 0 by rw [E5.out, HSc.out, List.drop_of_length_le (by omega)]; rfl)
              go_wp2
              go_ret
              exact ⟨ret_int E6.out.symm, HBw.out⟩
end Go.Proofs.Ytpcjfgikicpioaa
