/- Contracts: gram.Has, gram.Check. -/
import Derived.Test.YtnlpeiffbnlncaaDoorQOrd
import Derived.Test.YtnlpeiffbnlncaaDoorQw1
import Derived.Deep.DeepCutAuto
namespace Go.Proofs.YtnlpeiffbnlncaaDoor
open Go.RowKit
set_option linter.unusedVariables false

def symIn (t n : Int) (s : Sym) : Bool := decide (0 ≤ s.n) && (if s.term then decide (s.n < t) else decide (s.n < n))

theorem gHas_any (t n s0 : Int) (sl : Value) (st : Bool) (sn : Int) (w : World) (hsl : ∃ A k c, sl = .slice A k c) :
    Calls Tryd.prog 79 #[.agg #[.int .i64 t, .int .i64 n, .int .i64 s0, sl], .agg #[.bool st, .int .i64 sn]] w
      fun e w' => e = .returned (.bool (symIn t n ⟨st, sn⟩)) ∧ Below w.heap.size w w' := by
  obtain ⟨A, k, c, rfl⟩ := hsl
  have hb : ∀ o1 o2, Below w.heap.size w ((w.alloc o1).alloc o2) := fun o1 o2 => ((Below.refl _ _).alloc (Nat.le_refl _) _).alloc (by simp) _
  by_cases h0 : 0 ≤ sn
  · cases st
    · by_cases h1 : sn < n
      · have E := Lib.hid (show symIn t n ⟨false, sn⟩ = true by simp [symIn, h0, h1])
        go_enter Tryd.func79, Tryd.ntmps79
        go_wp2
        go_ret
        exact ⟨ret_bool E.out.symm, hb _ _⟩
      · have E := Lib.hid (show symIn t n ⟨false, sn⟩ = false by simp [symIn, h1])
        go_enter Tryd.func79, Tryd.ntmps79
        go_wp2
        go_ret
        exact ⟨ret_bool E.out.symm, hb _ _⟩
    · by_cases h1 : sn < t
      · have E := Lib.hid (show symIn t n ⟨true, sn⟩ = true by simp [symIn, h0, h1])
        go_enter Tryd.func79, Tryd.ntmps79
        go_wp2
        go_ret
        exact ⟨ret_bool E.out.symm, hb _ _⟩
      · have E := Lib.hid (show symIn t n ⟨true, sn⟩ = false by simp [symIn, h1])
        go_enter Tryd.func79, Tryd.ntmps79
        go_wp2
        go_ret
        exact ⟨ret_bool E.out.symm, hb _ _⟩
  · have E := Lib.hid (show symIn t n ⟨st, sn⟩ = false by simp [symIn, h0])
    go_enter Tryd.func79, Tryd.ntmps79
    go_wp2
    go_ret
    exact ⟨ret_bool E.out.symm, hb _ _⟩

theorem check1_any (t n s0 : Int) (A : Option Addr) (k c G : Nat) (st : Bool) (sn : Int) (w : World) (g0 : w.cell? ⟨G, 0, none⟩ = some (.int .i64 t)) (g1 : w.cell? ⟨G, 1, none⟩ = some (.int .i64 n)) (g2 : w.cell? ⟨G, 2, none⟩ = some (.int .i64 s0)) (g3 : w.cell? ⟨G, 3, none⟩ = some (.slice A k c)) :
    Calls Tryd.prog 78 #[.agg #[.bool st, .int .i64 sn], .pointer (some ⟨G, 0, none⟩)] w
      fun e w' => e = .returned (.bool (!symIn t n ⟨st, sn⟩)) ∧ Below w.heap.size w w' := by
  have hG : G < w.heap.size := World.block_lt_of_cell? w _ g0
  go_enter Tryd.func78, Tryd.ntmps78
  go_wp2_with fail
  refine (gHas_any t n s0 _ st sn _ ⟨A, k, c, rfl⟩).mono ?_
  rintro e w1 ⟨rfl, hb1⟩
  have HB := Lib.hid hb1
  clear hb1
  go_wp2
  go_ret
  exact ⟨rfl, bthen ((Below.refl _ _).alloc (Nat.le_refl _) _) HB.out (by simp)⟩

theorem check2_any (l l' : Int) (A A' : Option Addr) (c c' G : Nat) (xs ys : List Sym) (S : Nat → Prop) (w : World) (hm : xs.length ≤ 9223372036854775807) (hm' : ys.length ≤ 9223372036854775807) (hA : Els w S xs A) (hA' : Els w S ys A')
    (g0 : w.cell? ⟨G, 0, none⟩ = some (.int .i64 l')) (g1 : w.cell? ⟨G, 1, none⟩ = some (.slice A' ys.length c')) :
    Calls Tryd.prog 81 #[.agg #[.int .i64 l, .slice A xs.length c], .pointer (some ⟨G, 0, none⟩)] w
      fun e w' => e = .returned (.bool (ruleCmp ⟨l, xs⟩ ⟨l', ys⟩ == 0)) ∧ Below w.heap.size w w' := by
  have hG : G < w.heap.size := World.block_lt_of_cell? w _ g0
  have hb := (Below.refl w.heap.size w).alloc (Nat.le_refl _) (.cells #[.int .i64 l, .slice A xs.length c] 57)
  go_enter Tryd.func81, Tryd.ntmps81
  go_wp2_with fail
  refine (compare_any l l' A A' c c' xs ys S _ hm hm' (hA.below hb) (hA'.below hb)).mono ?_
  rintro e w1 ⟨rfl, hb1⟩
  have HB := Lib.hid hb1
  have Hb := Lib.hid hb
  clear hb1 hb
  go_wp2
  go_ret
  exact ⟨rfl, bthen Hb.out HB.out (by simp)⟩

def chkFrom (t n : Int) : List Rule → List Rule → Int
  | _, [] => 0
  | pre, r :: rs => if r.left < 0 ∨ n ≤ r.left then 3 else if 4 < r.right.length then 2 else if r.right.any (fun s => !symIn t n s) then 3 else if pre.any (fun x => ruleCmp x r == 0) then 6 else chkFrom t n (pre ++ [r]) rs
def gramBad (g : Gram) : Prop := g.terms < 1 ∨ 8 < g.terms ∨ g.nons < 1 ∨ 10 < g.nons ∨ g.start < 0 ∨ g.nons ≤ g.start
instance instDecBad (g : Gram) : Decidable (gramBad g) := by unfold gramBad; infer_instance
def checkI (g : Gram) : Int := if gramBad g then 1 else if 32 < g.rules.length then 2 else chkFrom g.terms g.nons [] g.rules
def BoolOf (P : Prop) (v : Value) : Prop := ∃ b : Bool, v = .bool b ∧ (b = true ↔ P)

theorem Els.take {α : Type} [Dat α] {w : World} {S : Nat → Prop} {xs : List α} {A : Option Addr} (h : Els w S xs A) (k : Nat) : Els w S (xs.take k) A := by
  intro hne
  obtain ⟨b, o, hA, hb, hx⟩ := h (by rintro rfl; simp at hne)
  refine ⟨b, o, hA, hb, fun i x hi => hx i x ?_⟩
  rw [List.getElem?_take] at hi
  split at hi
  · exact hi
  · cases hi

def CheckL (g : Gram) (A : Option Addr) (c : Nat) (w : World) (i : Value) (wr : World) : Prop :=
  ∃ k : Nat, k ≤ g.rules.length ∧ i = .int .i64 k ∧ checkI g = chkFrom g.terms g.nons (g.rules.take k) (g.rules.drop k) ∧ Below w.heap.size w wr ∧ Blk' wr w.heap.size 25 #[.int .i64 g.terms, .int .i64 g.nons, .int .i64 g.start, .slice A g.rules.length c]

set_option maxRecDepth 100000 in
set_option maxHeartbeats 1000000 in
theorem check_any (g : Gram) (A : Option Addr) (c : Nat) (S : Nat → Prop) (w : World) (hlc : g.rules.length ≤ c) (hc : c ≤ 9223372036854775807) (hA : Els w S g.rules A) :
    Calls Tryd.prog 45 #[.agg #[.int .i64 g.terms, .int .i64 g.nons, .int .i64 g.start, .slice A g.rules.length c]] w
      fun e w' => e = .returned (.int .i64 (checkI g)) ∧ Below w.heap.size w w' := by
  obtain ⟨t, n, s0, rs⟩ := g
  dsimp only at *
  go_enter Tryd.func45, Tryd.ntmps45
  go_upto_region 1 with fail
  go_cut [34] (fun v wx => wx = w.alloc (.cells #[.int .i64 t, .int .i64 n, .int .i64 s0, .slice A rs.length c] 25) ∧ BoolOf (gramBad ⟨t, n, s0, rs⟩) v)
  case first =>
    by_cases k1 : t < 1
    · go_wp2_with fail
      go_meet
      exact ⟨rfl, true, rfl, by simp [gramBad]; omega⟩
    · by_cases k2 : 8 < t
      · go_wp2_with fail
        go_meet
        exact ⟨rfl, true, rfl, by simp [gramBad]; omega⟩
      · by_cases k3 : n < 1
        · go_wp2_with fail
          go_meet
          exact ⟨rfl, true, rfl, by simp [gramBad]; omega⟩
        · by_cases k4 : 10 < n
          · go_wp2_with fail
            go_meet
            exact ⟨rfl, true, rfl, by simp [gramBad]; omega⟩
          · by_cases k5 : s0 < 0
            · go_wp2_with fail
              go_meet
              exact ⟨rfl, true, rfl, by simp [gramBad]; omega⟩
            · by_cases k6 : n ≤ s0
              · go_wp2_with fail
                go_meet
                exact ⟨rfl, true, rfl, by simp [gramBad]; omega⟩
              · go_wp2_with fail
                go_meet
                exact ⟨rfl, false, rfl, by simp [gramBad]; omega⟩
  case rest =>
    obtain ⟨hw, b, rfl, hbad⟩ := hcut
    subst hw
    have hb0 : Below w.heap.size w (w.alloc (.cells #[.int .i64 t, .int .i64 n, .int .i64 s0, .slice A rs.length c] 25)) := (Below.refl _ _).alloc (Nat.le_refl _) _
    have HB0 := Lib.hid hb0
    clear hb0
    cases b
    · have hnb : ¬ gramBad ⟨t, n, s0, rs⟩ := fun h => by have := hbad.2 h; cases this
      clear hbad
      by_cases h32 : 32 < rs.length
      · have E := Lib.hid (show checkI ⟨t, n, s0, rs⟩ = 2 by simp [checkI, hnb, h32])
        clear hnb
        have h32' : (32 : Int) < (rs.length : Int) := by omega
        go_wp2
        go_ret
        exact ⟨ret_int E.out.symm, HB0.out⟩
      · have E := Lib.hid (show checkI ⟨t, n, s0, rs⟩ = chkFrom t n [] rs by simp [checkI, hnb, h32])
        clear hnb
        have h32' : ¬ (32 : Int) < (rs.length : Int) := by omega
        go_wp2
        go_loopw [42] (fun i wr => CheckL ⟨t, n, s0, rs⟩ A c w i wr) (fun i _ => rs.length - (intOf i).toNat)
        case atStart => exact ⟨0, Nat.zero_le _, rfl, by simpa using E.out, HB0.out, Blk'.new _ _ _⟩
        case round =>
          obtain ⟨wo, hwo⟩ : ∃ wo : World, wo = wr := ⟨_, rfl⟩
          subst hwo
          obtain ⟨k, hk, rfl, hr, hb, hG⟩ := hrel
          dsimp only at hk hr
          have Hr := Lib.hid hr
          have HB := Lib.hid hb
          have HG := Lib.hid hG
          have g1 : wo.cell? ⟨w.heap.size, 1, none⟩ = some (.int .i64 n) := hG.cell 1
          have g3 : wo.cell? ⟨w.heap.size, 3, none⟩ = some (.slice A rs.length c) := hG.cell 3
          have hGl := hG.lt
          clear hr hb hG E HB0
          by_cases hlt : k < rs.length
          · obtain ⟨r, hx⟩ := get_some hlt
            obtain ⟨b, o, Ar, cr, rfl, hSb, hbs, hi, hrc, hcr, hEr, hc0, hc1⟩ := (hA.below HB.out).rule hx
            have Hd := Lib.hid (drop_cons hx)
            have Ht := Lib.hid (take_snoc hx)
            have HEr := Lib.hid hEr
            have HE := Lib.hid (hA.below HB.out)
            clear hx hEr
            obtain ⟨l, rr⟩ := r
            dsimp only at *
            have hk0 : (0 : Int) ≤ (k : Int) := by omega
            have hk1 : (k : Int) ≤ (c : Int) := by omega
            by_cases hl : l < 0 ∨ n ≤ l
            · have E := Lib.hid (show checkI ⟨t, n, s0, rs⟩ = 3 by rw [Hr.out, Hd.out, chkFrom, if_pos hl])
              by_cases hl0 : l < 0
              · clear hl
                go_wp2
                go_ret
                exact ⟨ret_int E.out.symm, HB.out.alloc HB.out.size _⟩
              · have hl1 : n ≤ l := by omega
                clear hl
                go_wp2
                go_ret
                exact ⟨ret_int E.out.symm, HB.out.alloc HB.out.size _⟩
            · have hl0 : ¬ l < 0 := by omega
              have hl1 : ¬ n ≤ l := by omega
              have E1 := Lib.hid (show checkI ⟨t, n, s0, rs⟩ = if 4 < rr.length then 2 else if rr.any (fun s => !symIn t n s) then 3 else if (rs.take k).any (fun x => ruleCmp x ⟨l, rr⟩ == 0) then 6 else chkFrom t n (rs.take k ++ [⟨l, rr⟩]) (rs.drop (k + 1)) by rw [Hr.out, Hd.out, chkFrom, if_neg hl])
              clear hl
              by_cases h4 : 4 < rr.length
              · have E := Lib.hid (show checkI ⟨t, n, s0, rs⟩ = 2 by rw [E1.out, if_pos h4])
                have h4' : (4 : Int) < (rr.length : Int) := by omega
                go_wp2
                go_ret
                exact ⟨ret_int E.out.symm, HB.out.alloc HB.out.size _⟩
              · have h4' : ¬ (4 : Int) < (rr.length : Int) := by omega
                have hba : Below wo.heap.size wo (wo.alloc (.cells #[.int .i64 l, .slice Ar rr.length cr] 57)) := (Below.refl _ _).alloc (Nat.le_refl _) _
                have HG1 := Lib.hid (HG.out.alloc (.cells #[.int .i64 l, .slice Ar rr.length cr] 57))
                have HE1 := Lib.hid (HEr.out.below hba)
                have hcl1 : ∀ (x : Sym) (W : World), x ∈ rr → Below (wo.alloc (.cells #[.int .i64 l, .slice Ar rr.length cr] 57)).heap.size (wo.alloc (.cells #[.int .i64 l, .slice Ar rr.length cr] 57)) W →
                    Calls Tryd.prog 78 #[.agg #[.bool x.term, .int .i64 x.n], .pointer (some ⟨w.heap.size, 0, none⟩)] W fun e W' => e = .returned (.bool (!symIn t n x)) ∧ Below W.heap.size W W' := fun x W _ hW =>
                  have hGW := HG1.out.below hW HG1.out.lt
                  check1_any t n s0 (some ⟨b, o, none⟩) rs.length c w.heap.size x.term x.n W (hGW.cell 0) (hGW.cell 1) (hGW.cell 2) (hGW.cell 3)
                have HC1 := Lib.hid hcl1
                have Hba := Lib.hid hba
                clear hcl1 hba
                go_wp2_with fail
                refine (contSym_any Ar cr rr S _ _ _ (fun s => !symIn t n s) (by omega) HE1.out (isGo_of Tryd.func78 (by kernel_rfl) (by kernel_rfl)) HC1.out).mono ?_
                rintro e w1 ⟨rfl, hb1⟩
                have Hb1 := Lib.hid (bthen Hba.out hb1 (by simp))
                have hG1 := HG1.out.below hb1 HG1.out.lt
                have hR1 := (Blk'.new wo 57 #[.int .i64 l, .slice Ar rr.length cr]).below hb1 (by simp)
                have HG2 := Lib.hid hG1
                have HR2 := Lib.hid hR1
                have g13 : w1.cell? ⟨w.heap.size, 3, none⟩ = some (.slice (some ⟨b, o, none⟩) rs.length c) := hG1.cell 3
                clear hb1 hG1 hR1 HG1 HE1 HC1 Hba
                cases ha : rr.any (fun s => !symIn t n s)
                · have E2 := Lib.hid (show checkI ⟨t, n, s0, rs⟩ = if (rs.take k).any (fun x => ruleCmp x ⟨l, rr⟩ == 0) then 6 else chkFrom t n (rs.take k ++ [⟨l, rr⟩]) (rs.drop (k + 1)) by rw [E1.out, if_neg h4, ha]; rfl)
                  clear ha E1
                  have HE2 := Lib.hid ((HE.out.below Hb1.out).take k)
                  have HEr2 := Lib.hid (HEr.out.below Hb1.out)
                  have hcl2 : ∀ (x : Rule) (W : World), x ∈ rs.take k → Below w1.heap.size w1 W → ∀ (A' : Option Addr) (c' : Nat), x.right.length ≤ c' → c' ≤ 9223372036854775807 → Els W S x.right A' →
                      Calls Tryd.prog 81 #[.agg #[.int .i64 x.left, .slice A' x.right.length c'], .pointer (some ⟨wo.heap.size, 0, none⟩)] W fun e W' => e = .returned (.bool (ruleCmp x ⟨l, rr⟩ == 0)) ∧ Below W.heap.size W W' := fun x W _ hW A' c' q1 q2 q3 =>
                    have hRW := HR2.out.below hW HR2.out.lt
                    check2_any x.left l A' Ar c' cr wo.heap.size x.right rr S W (by omega) (by omega) q3 (HEr2.out.below hW) (hRW.cell 0) (hRW.cell 1)
                  have HC2 := Lib.hid hcl2
                  clear hcl2
                  go_wp2_with fail
                  refine (contRule_n (some ⟨b, o, none⟩) k c (rs.take k) (by simp; omega) S _ _ _ (fun x => ruleCmp x ⟨l, rr⟩ == 0) (by simp; omega) HE2.out (isGo_of Tryd.func81 (by kernel_rfl) (by kernel_rfl)) HC2.out).mono ?_
                  rintro e w2 ⟨rfl, hb2⟩
                  have Hb2 := Lib.hid hb2
                  clear hb2
                  have hzz : w.heap.size ≤ w1.heap.size := Nat.le_trans HB.out.size Hb1.out.size
                  cases ha : (rs.take k).any (fun x => ruleCmp x ⟨l, rr⟩ == 0)
                  · have E3 := Lib.hid (show checkI ⟨t, n, s0, rs⟩ = chkFrom t n (rs.take (k + 1)) (rs.drop (k + 1)) by rw [E2.out, ha, Ht.out]; rfl)
                    clear ha
                    go_wp2
                    go_roundw
                    case rel => exact ⟨k + 1, hlt, by go_num, E3.out, bthen (bthen HB.out Hb1.out HB.out.size) Hb2.out hzz, HG2.out.below Hb2.out HG2.out.lt⟩
                    case measure => simp [intOf]; omega
                  · have E := Lib.hid (show checkI ⟨t, n, s0, rs⟩ = 6 by rw [E2.out, ha]; rfl)
                    clear ha
                    go_wp2
                    go_ret
                    exact ⟨ret_int E.out.symm, bthen (bthen HB.out Hb1.out HB.out.size) Hb2.out hzz⟩
                · have E := Lib.hid (show checkI ⟨t, n, s0, rs⟩ = 3 by rw [E1.out, if_neg h4, ha]; rfl)
                  clear ha
                  go_wp2
                  go_ret
                  exact ⟨ret_int E.out.symm, bthen HB.out Hb1.out HB.out.size⟩
          · have E := Lib.hid (show checkI ⟨t, n, s0, rs⟩ = 0 by rw [Hr.out, List.drop_of_length_le (by omega)]; rfl)
            go_wp2
            go_ret
            exact ⟨ret_int E.out.symm, HB.out⟩
    · have E := Lib.hid (show checkI ⟨t, n, s0, rs⟩ = 1 by rw [checkI, if_pos (hbad.1 rfl)])
      clear hbad
      go_wp2
      go_ret
      exact ⟨ret_int E.out.symm, HB0.out⟩
end Go.Proofs.YtnlpeiffbnlncaaDoor
