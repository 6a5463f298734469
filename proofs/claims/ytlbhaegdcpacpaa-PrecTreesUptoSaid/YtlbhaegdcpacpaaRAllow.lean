/- Contract: parlref2.AllowedOf. -/
import Derived.Test.YtlbhaegdcpacpaaOpOf
import Derived.Test.YtlbhaegdcpacpaaYield
import Derived.Deep.RegionHeld3
import Derived.IntWalk
namespace Go.Proofs.Ytlbhaegdcpacpaa
open Go.RowKit
set_option linter.unusedVariables false

theorem allowRs_take (t : Table) : ∀ (ks : List Tree) (m : Nat) (k : Tree), ks[m]? = some k → allowRs t (ks.take (m + 1)) = (allowRs t (ks.take m) && (decide (k.rule < 0) || allowR t k))
  | [], m, k, h => by simp at h
  | x :: ks, 0, k, h => by simp at h; subst h; simp [allowRs]
  | x :: ks, m + 1, k, h => by
    simp only [List.take_succ_cons, allowRs]
    rw [allowRs_take t ks m k (by simpa using h), Bool.and_assoc]
theorem allowRs_mem (t : Table) : ∀ (ks : List Tree) (k : Tree), k ∈ ks → ¬ k.rule < 0 → allowR t k = false → allowRs t ks = false
  | [], k, h, _, _ => by simp at h
  | x :: ks, k, h, hr, hf => by
    unfold allowRs
    rcases List.mem_cons.1 h with e | e
    · rw [← e, hf, decide_eq_false hr]; rfl
    · rw [allowRs_mem t ks k e hr hf, Bool.and_false]
theorem opFrom_neg : ∀ (k : Nat) (ls : List Level) (ks : List Tree), ks.length ≤ 1 ∨ True → True := fun _ _ _ _ => trivial
theorem opOf_len {t : Table} {ks : List Tree} (h : ¬ (opOfE t ks).2 < 0) : 1 < ks.length := by
  false_or_by_contra
  rename_i h1
  apply h
  simp [opOfE, h1]
def RaL (t : Table) (ks : List Tree) (w : World) (i : Value) (wr : World) : Prop :=
  ∃ m : Nat, m ≤ ks.length ∧ i = .int .i64 m ∧ allowRs t (ks.take m) = true ∧ Below w.heap.size w wr

set_option maxRecDepth 100000 in
set_option maxHeartbeats 4000000 in
theorem rallow_any (S S' : Nat → Prop) (t : Table) (c : Nat) (hln : t.levels.length ≤ 1000000) : ∀ (x : Tree) (A B : Option Addr) (d : Nat) (w : World), x.kids.length ≤ d → d ≤ 9223372036854775807 → Els w S' x.kids B → Els w S t.levels A →
    Calls Try.prog 19 #[.agg #[.int .i64 t.terms, .int .i64 t.atom, .int .i64 t.opn, .int .i64 t.cls, .slice A t.levels.length c], .agg #[.int .i64 x.rule, .int .i64 x.term, .slice B x.kids.length d]] w
      fun e w' => e = .returned (.bool (allowR t x)) ∧ Below w.heap.size w w' := by
  refine Tree.ind ?_
  intro r tm ks ih A B d w hld hd hB hA
  have IH := Lib.hid ih
  dsimp only [Tree.rule, Tree.term, Tree.kids] at *
  obtain ⟨w1, hw1⟩ : ∃ w1 : World, w1 = (w.alloc (.cells #[.int .i64 t.terms, .int .i64 t.atom, .int .i64 t.opn, .int .i64 t.cls, .slice A t.levels.length c] 24)).alloc (.cells #[.int .i64 r, .int .i64 tm, .slice B ks.length d] 27) := ⟨_, rfl⟩
  have hb1 : Below w.heap.size w w1 := by rw [hw1]; exact ((Below.refl _ _).alloc (Nat.le_refl _) _).alloc (by simp) _
  have hT1 : Blk' w1 w.heap.size 24 #[.int .i64 t.terms, .int .i64 t.atom, .int .i64 t.opn, .int .i64 t.cls, .slice A t.levels.length c] := by rw [hw1]; exact (Blk'.new w _ _).alloc _
  have hX1 : Blk' w1 (w.heap.size + 1) 27 #[.int .i64 r, .int .i64 tm, .slice B ks.length d] := by rw [hw1]; exact Blk'.new' _ _ _ (by simp)
  have H0 := Lib.hid (And.intro hb1 (And.intro hT1 (And.intro hX1 (And.intro (hA.below hb1) (hB.below hb1)))))
  have t0 : w1.cell? ⟨w.heap.size, 0, none⟩ = some (.int .i64 t.terms) := hT1.cell 0
  have t1 : w1.cell? ⟨w.heap.size, 1, none⟩ = some (.int .i64 t.atom) := hT1.cell 1
  have t2 : w1.cell? ⟨w.heap.size, 2, none⟩ = some (.int .i64 t.opn) := hT1.cell 2
  have t3 : w1.cell? ⟨w.heap.size, 3, none⟩ = some (.int .i64 t.cls) := hT1.cell 3
  have t4 : w1.cell? ⟨w.heap.size, 4, none⟩ = some (.slice A t.levels.length c) := hT1.cell 4
  have x0 : w1.cell? ⟨w.heap.size + 1, 0, none⟩ = some (.int .i64 r) := hX1.cell 0
  have x1 : w1.cell? ⟨w.heap.size + 1, 1, none⟩ = some (.int .i64 tm) := hX1.cell 1
  have x2 : w1.cell? ⟨w.heap.size + 1, 2, none⟩ = some (.slice B ks.length d) := hX1.cell 2
  have HW1 := Lib.hid hw1
  have hkl9 : ks.length ≤ 9223372036854775807 := by omega
  clear hw1 hb1 hT1 hX1 hA hB ih
  go_enter Try.func19, Try.ntmps19
  go_upto_region 1 with (fail)
  rw [← HW1.out]
  go_wp2_with fail
  refine (opOf_any t ⟨r, tm, ks⟩ A B c d S S' _ hln H0.out.2.2.2.1 hld hd H0.out.2.2.2.2).mono ?_
  rintro e w2 ⟨rfl, hb2⟩
  rw [show (Tree.mk r tm ks).kids = ks from rfl]
  obtain ⟨i, kd, hop⟩ : ∃ i kd, opOfE t ks = (i, kd) := ⟨_, _, rfl⟩
  rw [hop]
  dsimp only
  have HOp := Lib.hid hop
  have H1 := Lib.hid (And.intro (bthen H0.out.1 hb2 H0.out.1.size) (And.intro (H0.out.2.1.below hb2 H0.out.2.1.lt) (And.intro (H0.out.2.2.1.below hb2 H0.out.2.2.1.lt) (And.intro (H0.out.2.2.2.1.below hb2) (H0.out.2.2.2.2.below hb2)))))
  clear hop hb2 H0 t0 t1 t2 t3 t4 x0 x1 x2 HW1
  have x2 : w2.cell? ⟨w.heap.size + 1, 2, none⟩ = some (.slice B ks.length d) := H1.out.2.2.1.cell 2
  by_cases hkd : kd < 0
  · have HNode := Lib.hid (show nodeR t ks = true by rw [nodeR, HOp.out, if_pos hkd])
    have hkd' : ¬ (0 : Int) ≤ kd := by omega
    obtain ⟨wc, hwc⟩ : ∃ wc : World, wc = w2 := ⟨_, rfl⟩
    subst hwc
    have HBc := Lib.hid (Below.refl wc.heap.size wc)
    have HBw := Lib.hid H1.out.1
    clear hkd x2
    -- the world is wc; HBc: Below w.heap.size w wc; HNode: nodeR t ks = true
    have HE2 := Lib.hid (show allowR t ⟨r, tm, ks⟩ = allowRs t ks by rw [allowR, HNode.out]; rfl)
    have hTc := H1.out.2.1.below HBc.out H1.out.2.1.lt
    have hXc := H1.out.2.2.1.below HBc.out H1.out.2.2.1.lt
    have HTc := Lib.hid hTc
    have HXc := Lib.hid (And.intro hXc (And.intro (H1.out.2.2.2.1.below HBc.out) (H1.out.2.2.2.2.below HBc.out)))
    have x2c : wc.cell? ⟨w.heap.size + 1, 2, none⟩ = some (.slice _ ks.length d) := hXc.cell 2
    clear hTc hXc
    go_wp2_with fail
    go_loopw [74] (fun i wr => RaL t ks wc i wr) (fun i _ => ks.length - (intOf i).toNat)
    case atStart => exact ⟨0, Nat.zero_le _, rfl, by simp [allowRs], Below.refl _ _⟩
    case round =>
      obtain ⟨wo, hwo⟩ : ∃ wo : World, wo = wr := ⟨_, rfl⟩
      subst hwo
      obtain ⟨m, hm, rfl, hal, hb⟩ := hrel
      have HAl := Lib.hid hal
      have HB := Lib.hid hb
      have hTo := HTc.out.below hb HTc.out.lt
      have c0 : wo.cell? ⟨w.heap.size, 0, none⟩ = some (.int .i64 t.terms) := hTo.cell 0
      have c1 : wo.cell? ⟨w.heap.size, 1, none⟩ = some (.int .i64 t.atom) := hTo.cell 1
      have c2 : wo.cell? ⟨w.heap.size, 2, none⟩ = some (.int .i64 t.opn) := hTo.cell 2
      have c3 : wo.cell? ⟨w.heap.size, 3, none⟩ = some (.int .i64 t.cls) := hTo.cell 3
      have c4 : wo.cell? ⟨w.heap.size, 4, none⟩ = some (.slice A t.levels.length c) := hTo.cell 4
      have zt : w.heap.size < wo.heap.size := hTo.lt
      clear hal hb hTo x2c
      by_cases hlt : m < ks.length
      · obtain ⟨k, hk⟩ := get_some hlt
        obtain ⟨bk, ok, Ax, cx, eB, hSk, hbk, hxi, hxt, hx1, hx2, hEx, kc0, kc1, kc2⟩ := (HXc.out.2.2.below HB.out).tree hk
        first | subst eB | (injection eB with eB; injection eB with e1 e2 _; subst e1; subst e2)
        have hba2 : Below wo.heap.size wo (wo.alloc (.cells #[.int .i64 k.rule, .int .i64 k.term, .slice Ax k.kids.length cx] 27)) := (Below.refl _ _).alloc (Nat.le_refl _) _
        have HX := Lib.hid (And.intro (List.mem_of_getElem? hk) (And.intro (hEx.below hba2) (And.intro hba2 ((HXc.out.2.1.below HB.out).below hba2))))
        have HTk := Lib.hid (allowRs_take t ks m k hk)
        have hm0 : (0 : Int) ≤ (m : Int) := by omega
        have hm1 : (m : Int) < (ks.length : Int) := by omega
        clear hk hxi hxt hEx hba2
        by_cases hkr : k.rule < 0
        · have HE3 := Lib.hid (show allowRs t (ks.take (m + 1)) = true by rw [HTk.out, HAl.out, decide_eq_true hkr]; rfl)
          have hkr' : ¬ (0 : Int) ≤ k.rule := by omega
          clear hkr
          go_wp2_with fail
          go_roundw
          case rel => exact ⟨m + 1, hlt, by go_num, HE3.out, bthen HB.out HX.out.2.2.1 HB.out.size⟩
          case measure => simp [intOf]; omega
        · have HKr := Lib.hid hkr
          have hkr' : (0 : Int) ≤ k.rule := by omega
          clear hkr
          go_wp2_with fail
          refine (IH.out k HX.out.1 A Ax cx _ hx1 hx2 HX.out.2.1 HX.out.2.2.2).mono ?_
          rintro e w5 ⟨rfl, hb5⟩
          have HB5 := Lib.hid (bthen HB.out (bthen HX.out.2.2.1 hb5 (by simp)) HB.out.size)
          clear hb5
          cases hak : allowR t k
          · have HE3 := Lib.hid (show allowR t ⟨r, tm, ks⟩ = false by rw [HE2.out, allowRs_mem t ks k HX.out.1 (by have := HKr.out; omega) hak])
            clear hak
            go_wp2
            go_ret
            exact ⟨ret_bool HE3.out.symm, bthen H1.out.1 (bthen HBc.out HB5.out HBc.out.size) H1.out.1.size⟩
          · have HE3 := Lib.hid (show allowRs t (ks.take (m + 1)) = true by rw [HTk.out, HAl.out, hak, Bool.or_true]; rfl)
            clear hak
            go_wp2
            go_roundw
            case rel => exact ⟨m + 1, hlt, by go_num, HE3.out, HB5.out⟩
            case measure => simp [intOf]; omega
      · have HE3 := Lib.hid (show allowR t ⟨r, tm, ks⟩ = true by
          have h := HAl.out
          rw [List.take_of_length_le (by omega)] at h
          rw [HE2.out, h])
        go_wp2
        go_ret
        exact ⟨ret_bool HE3.out.symm, bthen H1.out.1 (bthen HBc.out HB.out HBc.out.size) H1.out.1.size⟩
  · have hkd' : (0 : Int) ≤ kd := by omega
    have hk1 : 1 < ks.length := opOf_len (t := t) (by rw [HOp.out]; exact hkd)
    have HKd := Lib.hid hkd
    obtain ⟨j, hj⟩ : ∃ j, ks.length = j + 1 := ⟨ks.length - 1, by omega⟩
    obtain ⟨y, hy⟩ := get_some (show j < ks.length by omega)
    have HY := Lib.hid (show lastT ks = y by
      unfold lastT
      rw [List.getLastD_eq_getLast?, List.getLast?_eq_getElem?, show ks.length - 1 = j by omega, hy]; rfl)
    obtain ⟨bk, ok, Ay, cy, eB, hSk, hbk, hyi, hyt, hy1, hy2, hEy, kc0, kc1, kc2⟩ := H1.out.2.2.2.2.tree hy
    subst eB
    have t0 : w2.cell? ⟨w.heap.size, 0, none⟩ = some (.int .i64 t.terms) := H1.out.2.1.cell 0
    have t1 : w2.cell? ⟨w.heap.size, 1, none⟩ = some (.int .i64 t.atom) := H1.out.2.1.cell 1
    have t2 : w2.cell? ⟨w.heap.size, 2, none⟩ = some (.int .i64 t.opn) := H1.out.2.1.cell 2
    have t3 : w2.cell? ⟨w.heap.size, 3, none⟩ = some (.int .i64 t.cls) := H1.out.2.1.cell 3
    have t4 : w2.cell? ⟨w.heap.size, 4, none⟩ = some (.slice A t.levels.length c) := H1.out.2.1.cell 4
    have HEy := Lib.hid hEy
    have HJ := Lib.hid hj
    have hj0 : (0 : Int) ≤ (j : Int) := by omega
    have hj9 : (j : Int) ≤ 9223372036854775806 := by omega
    have hjw : IntKind.i64.wrap ((ks.length : Int) - 1) = (ks.length : Int) - 1 := IntWalk.i64_in _ (by omega)
    have hj1 : 0 ≤ (ks.length : Int) - 1 := by omega
    have hj2 : ((ks.length : Int) - 1).toNat = j := by omega
    have hj3 : ks.length - 1 = j := by omega
    have hj4 : (1 : Int) ≤ (ks.length : Int) := by omega
    have hj5 : (ks.length : Int) - 1 < (ks.length : Int) := by omega
    have hj6 : j < ks.length := by omega
    clear hkd hy hyi hyt hEy hj
    go_upto_region 4 with (fail)
    have zt2 : w.heap.size < w2.heap.size := H1.out.2.1.lt
    have zx2 : w.heap.size + 1 < w2.heap.size := H1.out.2.2.1.lt
    go_region_held3 (fun w' => w'.cell? ⟨w.heap.size, 0, none⟩ = some (.int .i64 t.terms) ∧ w'.cell? ⟨w.heap.size, 1, none⟩ = some (.int .i64 t.atom) ∧ w'.cell? ⟨w.heap.size, 2, none⟩ = some (.int .i64 t.opn) ∧ w'.cell? ⟨w.heap.size, 3, none⟩ = some (.int .i64 t.cls) ∧ w'.cell? ⟨w.heap.size, 4, none⟩ = some (.slice A t.levels.length c) ∧ w'.cell? ⟨w.heap.size + 1, 2, none⟩ = some (.slice (some ⟨bk, ok, none⟩) ks.length d) ∧ w'.cell? ⟨bk, ok + j * 3, none⟩ = some (.int .i64 y.rule) ∧ w'.cell? ⟨bk, ok + j * 3 + 1, none⟩ = some (.int .i64 y.term) ∧ w'.cell? ⟨bk, ok + j * 3 + 1 + 1, none⟩ = some (.slice Ay y.kids.length cy)) (go_keep)
      ((go_at_call 58
        refine (opOf_any t y A Ay c cy S S' _ hln (H1.out.2.2.2.1.below (Below.refl _ _).drew) hy1 hy2 (HEy.out.below (Below.refl _ _).drew)).mono ?_
        rintro e w3 ⟨rfl, hb3⟩
        obtain ⟨rr, rk, hop2⟩ : ∃ i kd, opOfE t y.kids = (i, kd) := ⟨_, _, rfl⟩
        rw [hop2]
        dsimp only
        have HO2 := Lib.hid hop2
        have HB3 := Lib.hid (bundrew hb3)
        clear hop2 hb3
        have n0 := (HB3.out.cell (p := ⟨w.heap.size, 0, none⟩) zt2).trans t0
        have n1 := (HB3.out.cell (p := ⟨w.heap.size, 1, none⟩) zt2).trans t1
        have n2 := (HB3.out.cell (p := ⟨w.heap.size, 2, none⟩) zt2).trans t2
        have n3 := (HB3.out.cell (p := ⟨w.heap.size, 3, none⟩) zt2).trans t3
        have n4 := (HB3.out.cell (p := ⟨w.heap.size, 4, none⟩) zt2).trans t4
        have n5 := (HB3.out.cell (p := ⟨w.heap.size + 1, 2, none⟩) zx2).trans x2
        have n6 := (HB3.out.cell (p := ⟨bk, ok + j * 3, none⟩) hbk).trans kc0
        have n7 := (HB3.out.cell (p := ⟨bk, ok + j * 3 + 1, none⟩) hbk).trans kc1
        have n8 := (HB3.out.cell (p := ⟨bk, ok + j * 3 + 1 + 1, none⟩) hbk).trans kc2))
    clear hjw hj1 hj2 hj3 hj5 t0 t1 t2 t3 t4 x2 kc0 kc1 kc2 n0 n1 n2 n3 n4 n5 n6 n7 n8
    have HR : Hid (nodeR t ks = (!(decide (rr < i) || decide (rr = i) && decide (kd < 2)) && (decide (ks.length ≠ 3) || !(decide ((opOfE t (headT ks).kids).1 < i) || decide ((opOfE t (headT ks).kids).1 = i) && decide (kd ≠ 1))))) := Lib.hid (by
      rw [nodeR, HOp.out, if_neg (by have := HKd.out; dsimp only; omega), HY.out, HO2.out])
    have HBw3 := Lib.hid (bthen H1.out.1 HB3.out H1.out.1.size)
    by_cases c1 : rr < i
    · have HF := Lib.hid (show allowR t ⟨r, tm, ks⟩ = false by rw [allowR, HR.out, decide_eq_true c1]; rfl)
      go_wp2
      go_ret
      exact ⟨ret_bool HF.out.symm, HBw3.out⟩
    by_cases c2 : rr = i
    · have c2' : (rr == i) = true := by simp [c2]
      by_cases c3 : kd < 2
      · have HF := Lib.hid (show allowR t ⟨r, tm, ks⟩ = false by rw [allowR, HR.out, decide_eq_true c2, decide_eq_true c3, Bool.and_true, Bool.or_true]; rfl)
        clear c2
        go_wp2
        go_ret
        exact ⟨ret_bool HF.out.symm, HBw3.out⟩
      · have HQ := Lib.hid (show nodeR t ks = (decide (ks.length ≠ 3) || !(decide ((opOfE t (headT ks).kids).1 < i) || decide ((opOfE t (headT ks).kids).1 = i) && decide (kd ≠ 1))) by rw [HR.out, decide_eq_false c1, decide_eq_false c3, Bool.and_false]; rfl)
        clear c2 HR
        by_cases h3 : ks.length = 3
        · have q3 : ((ks.length : Int) == 3) = true := by simp; omega
          have hl3 : ks.length = 3 := h3
          have HQ2 := Lib.hid (show nodeR t ks = !(decide ((opOfE t (headT ks).kids).1 < i) || decide ((opOfE t (headT ks).kids).1 = i) && decide (kd ≠ 1)) by rw [HQ.out, decide_eq_false (by simp [hl3])]; rfl)
          obtain ⟨z, hz⟩ := get_some (show 0 < ks.length by omega)
          have HZ := Lib.hid (show headT ks = z by
            unfold headT
            cases ks with
            | nil => simp at hz
            | cons a l => simp at hz; subst hz; rfl)
          obtain ⟨bz, oz, Az, cz, eBz, hSz, hbz, hzi, hzt, hz1, hz2, hEz, kz0, kz1, kz2⟩ := (H1.out.2.2.2.2.below HB3.out).tree hz
          have x2 : w3.cell? ⟨w.heap.size + 1, 2, none⟩ = some (.slice _ ks.length d) := (H1.out.2.2.1.below HB3.out H1.out.2.2.1.lt).cell 2
          injection eBz with eBz
          injection eBz with e1 e2 _
          subst e1; subst e2
          have hT3 := H1.out.2.1.below HB3.out H1.out.2.1.lt
          have t0 : w3.cell? ⟨w.heap.size, 0, none⟩ = some (.int .i64 t.terms) := hT3.cell 0
          have t1 : w3.cell? ⟨w.heap.size, 1, none⟩ = some (.int .i64 t.atom) := hT3.cell 1
          have t2 : w3.cell? ⟨w.heap.size, 2, none⟩ = some (.int .i64 t.opn) := hT3.cell 2
          have t3 : w3.cell? ⟨w.heap.size, 3, none⟩ = some (.int .i64 t.cls) := hT3.cell 3
          have t4 : w3.cell? ⟨w.heap.size, 4, none⟩ = some (.slice A t.levels.length c) := hT3.cell 4
          have k0 : w3.cell? ⟨bk, ok, none⟩ = some (.int .i64 z.rule) := by simpa using kz0
          have k1 : w3.cell? ⟨bk, ok + 1, none⟩ = some (.int .i64 z.term) := by simpa using kz1
          have k2 : w3.cell? ⟨bk, ok + 1 + 1, none⟩ = some (.slice Az z.kids.length cz) := by simpa using kz2
          have hks0 : 0 < ks.length := by omega
          have zt3 : w.heap.size < w3.heap.size := hT3.lt
          have zx3 : w.heap.size + 1 < w3.heap.size := (H1.out.2.2.1.below HB3.out H1.out.2.2.1.lt).lt
          have HEz := Lib.hid hEz
          clear h3 hl3 hz kz0 kz1 kz2 hEz hzi hzt hT3 HQ
          go_wp2_with fail
          go_region_held3 (fun w' => w'.cell? ⟨w.heap.size, 0, none⟩ = some (.int .i64 t.terms) ∧ w'.cell? ⟨w.heap.size, 1, none⟩ = some (.int .i64 t.atom) ∧ w'.cell? ⟨w.heap.size, 2, none⟩ = some (.int .i64 t.opn) ∧ w'.cell? ⟨w.heap.size, 3, none⟩ = some (.int .i64 t.cls) ∧ w'.cell? ⟨w.heap.size, 4, none⟩ = some (.slice A t.levels.length c) ∧ w'.cell? ⟨w.heap.size + 1, 2, none⟩ = some (.slice (some ⟨bk, ok, none⟩) ks.length d) ∧ w'.cell? ⟨bk, ok, none⟩ = some (.int .i64 z.rule) ∧ w'.cell? ⟨bk, ok + 1, none⟩ = some (.int .i64 z.term) ∧ w'.cell? ⟨bk, ok + 1 + 1, none⟩ = some (.slice Az z.kids.length cz)) (go_keep)
            ((go_at_call 58
              refine (opOf_any t z A Az c cz S S' _ hln ((H1.out.2.2.2.1.below HB3.out).below (Below.refl _ _).drew) hz1 hz2 (HEz.out.below (Below.refl _ _).drew)).mono ?_
              rintro e w4 ⟨rfl, hb4⟩
              obtain ⟨lr, lk, hop3⟩ : ∃ i kd, opOfE t z.kids = (i, kd) := ⟨_, _, rfl⟩
              rw [hop3]
              dsimp only
              have HQ3 := Lib.hid (show nodeR t ks = !(decide (lr < i) || decide (lr = i) && decide (kd ≠ 1)) by rw [HQ2.out, HZ.out, hop3])
              have HC4 := Lib.hid (bundrew hb4)
              clear hop3 hb4
              have m0 := (HC4.out.cell (p := ⟨w.heap.size, 0, none⟩) zt3).trans t0
              have m1 := (HC4.out.cell (p := ⟨w.heap.size, 1, none⟩) zt3).trans t1
              have m2 := (HC4.out.cell (p := ⟨w.heap.size, 2, none⟩) zt3).trans t2
              have m3 := (HC4.out.cell (p := ⟨w.heap.size, 3, none⟩) zt3).trans t3
              have m4 := (HC4.out.cell (p := ⟨w.heap.size, 4, none⟩) zt3).trans t4
              have m5 := (HC4.out.cell (p := ⟨w.heap.size + 1, 2, none⟩) zx3).trans x2
              have m6 := (HC4.out.cell (p := ⟨bk, ok, none⟩) hbz).trans k0
              have m7 := (HC4.out.cell (p := ⟨bk, ok + 1, none⟩) hbz).trans k1
              have m8 := (HC4.out.cell (p := ⟨bk, ok + 1 + 1, none⟩) hbz).trans k2))
          have HB4 := Lib.hid (bthen HB3.out HC4.out HB3.out.size)
          clear t0 t1 t2 t3 t4 x2 k0 k1 k2 HQ2 m0 m1 m2 m3 m4 m5 m6 m7 m8
          have HBw4 := Lib.hid (bthen H1.out.1 HB4.out H1.out.1.size)
          by_cases d1 : lr < i
          · have HF := Lib.hid (show allowR t ⟨r, tm, ks⟩ = false by rw [allowR, HQ3.out, decide_eq_true d1]; rfl)
            go_wp2
            go_ret
            exact ⟨ret_bool HF.out.symm, HBw4.out⟩
          by_cases d2 : lr = i
          · have d2' : (lr == i) = true := by simp [d2]
            by_cases d3 : kd = 1
            · have d3' : (kd != 1) = false := by simp [d3]
              have HNode := Lib.hid (show nodeR t ks = true by rw [HQ3.out, decide_eq_false d1, decide_eq_false (show ¬ kd ≠ 1 by simp [d3]), Bool.and_false]; rfl)
              clear d2 d3
              obtain ⟨wc, hwc⟩ : ∃ wc : World, wc = w4 := ⟨_, rfl⟩
              subst hwc
              have HBc := Lib.hid HB4.out
              -- the world is wc; HBc: Below w.heap.size w wc; HNode: nodeR t ks = true
              have HE2 := Lib.hid (show allowR t ⟨r, tm, ks⟩ = allowRs t ks by rw [allowR, HNode.out]; rfl)
              have hTc := H1.out.2.1.below HBc.out H1.out.2.1.lt
              have hXc := H1.out.2.2.1.below HBc.out H1.out.2.2.1.lt
              have HTc := Lib.hid hTc
              have HXc := Lib.hid (And.intro hXc (And.intro (H1.out.2.2.2.1.below HBc.out) (H1.out.2.2.2.2.below HBc.out)))
              have x2c : wc.cell? ⟨w.heap.size + 1, 2, none⟩ = some (.slice _ ks.length d) := hXc.cell 2
              clear hTc hXc
              go_wp2_with fail
              go_loopw [74] (fun i wr => RaL t ks wc i wr) (fun i _ => ks.length - (intOf i).toNat)
              case atStart => exact ⟨0, Nat.zero_le _, rfl, by simp [allowRs], Below.refl _ _⟩
              case round =>
                obtain ⟨wo, hwo⟩ : ∃ wo : World, wo = wr := ⟨_, rfl⟩
                subst hwo
                obtain ⟨m, hm, rfl, hal, hb⟩ := hrel
                have HAl := Lib.hid hal
                have HB := Lib.hid hb
                have hTo := HTc.out.below hb HTc.out.lt
                have c0 : wo.cell? ⟨w.heap.size, 0, none⟩ = some (.int .i64 t.terms) := hTo.cell 0
                have c1 : wo.cell? ⟨w.heap.size, 1, none⟩ = some (.int .i64 t.atom) := hTo.cell 1
                have c2 : wo.cell? ⟨w.heap.size, 2, none⟩ = some (.int .i64 t.opn) := hTo.cell 2
                have c3 : wo.cell? ⟨w.heap.size, 3, none⟩ = some (.int .i64 t.cls) := hTo.cell 3
                have c4 : wo.cell? ⟨w.heap.size, 4, none⟩ = some (.slice A t.levels.length c) := hTo.cell 4
                have zt : w.heap.size < wo.heap.size := hTo.lt
                clear hal hb hTo x2c
                by_cases hlt : m < ks.length
                · obtain ⟨k, hk⟩ := get_some hlt
                  obtain ⟨bk, ok, Ax, cx, eB, hSk, hbk, hxi, hxt, hx1, hx2, hEx, kc0, kc1, kc2⟩ := (HXc.out.2.2.below HB.out).tree hk
                  first | subst eB | (injection eB with eB; injection eB with e1 e2 _; subst e1; subst e2)
                  have hba2 : Below wo.heap.size wo (wo.alloc (.cells #[.int .i64 k.rule, .int .i64 k.term, .slice Ax k.kids.length cx] 27)) := (Below.refl _ _).alloc (Nat.le_refl _) _
                  have HX := Lib.hid (And.intro (List.mem_of_getElem? hk) (And.intro (hEx.below hba2) (And.intro hba2 ((HXc.out.2.1.below HB.out).below hba2))))
                  have HTk := Lib.hid (allowRs_take t ks m k hk)
                  have hm0 : (0 : Int) ≤ (m : Int) := by omega
                  have hm1 : (m : Int) < (ks.length : Int) := by omega
                  clear hk hxi hxt hEx hba2
                  by_cases hkr : k.rule < 0
                  · have HE3 := Lib.hid (show allowRs t (ks.take (m + 1)) = true by rw [HTk.out, HAl.out, decide_eq_true hkr]; rfl)
                    have hkr' : ¬ (0 : Int) ≤ k.rule := by omega
                    clear hkr
                    go_wp2_with fail
                    go_roundw
                    case rel => exact ⟨m + 1, hlt, by go_num, HE3.out, bthen HB.out HX.out.2.2.1 HB.out.size⟩
                    case measure => simp [intOf]; omega
                  · have HKr := Lib.hid hkr
                    have hkr' : (0 : Int) ≤ k.rule := by omega
                    clear hkr
                    go_wp2_with fail
                    refine (IH.out k HX.out.1 A Ax cx _ hx1 hx2 HX.out.2.1 HX.out.2.2.2).mono ?_
                    rintro e w5 ⟨rfl, hb5⟩
                    have HB5 := Lib.hid (bthen HB.out (bthen HX.out.2.2.1 hb5 (by simp)) HB.out.size)
                    clear hb5
                    cases hak : allowR t k
                    · have HE3 := Lib.hid (show allowR t ⟨r, tm, ks⟩ = false by rw [HE2.out, allowRs_mem t ks k HX.out.1 (by have := HKr.out; omega) hak])
                      clear hak
                      go_wp2
                      go_ret
                      exact ⟨ret_bool HE3.out.symm, bthen H1.out.1 (bthen HBc.out HB5.out HBc.out.size) H1.out.1.size⟩
                    · have HE3 := Lib.hid (show allowRs t (ks.take (m + 1)) = true by rw [HTk.out, HAl.out, hak, Bool.or_true]; rfl)
                      clear hak
                      go_wp2
                      go_roundw
                      case rel => exact ⟨m + 1, hlt, by go_num, HE3.out, HB5.out⟩
                      case measure => simp [intOf]; omega
                · have HE3 := Lib.hid (show allowR t ⟨r, tm, ks⟩ = true by
                    have h := HAl.out
                    rw [List.take_of_length_le (by omega)] at h
                    rw [HE2.out, h])
                  go_wp2
                  go_ret
                  exact ⟨ret_bool HE3.out.symm, bthen H1.out.1 (bthen HBc.out HB.out HBc.out.size) H1.out.1.size⟩
            · have d3' : (kd != 1) = true := by simp [d3]
              have HF := Lib.hid (show allowR t ⟨r, tm, ks⟩ = false by rw [allowR, HQ3.out, decide_eq_true d2, decide_eq_true d3, Bool.and_true, Bool.or_true]; rfl)
              clear d2 d3
              go_wp2
              go_ret
              exact ⟨ret_bool HF.out.symm, HBw4.out⟩
          · have d2' : (lr == i) = false := by simp [d2]
            have HNode := Lib.hid (show nodeR t ks = true by rw [HQ3.out, decide_eq_false d1, decide_eq_false d2]; rfl)
            clear d2
            obtain ⟨wc, hwc⟩ : ∃ wc : World, wc = w4 := ⟨_, rfl⟩
            subst hwc
            have HBc := Lib.hid HB4.out
            -- the world is wc; HBc: Below w.heap.size w wc; HNode: nodeR t ks = true
            have HE2 := Lib.hid (show allowR t ⟨r, tm, ks⟩ = allowRs t ks by rw [allowR, HNode.out]; rfl)
            have hTc := H1.out.2.1.below HBc.out H1.out.2.1.lt
            have hXc := H1.out.2.2.1.below HBc.out H1.out.2.2.1.lt
            have HTc := Lib.hid hTc
            have HXc := Lib.hid (And.intro hXc (And.intro (H1.out.2.2.2.1.below HBc.out) (H1.out.2.2.2.2.below HBc.out)))
            have x2c : wc.cell? ⟨w.heap.size + 1, 2, none⟩ = some (.slice _ ks.length d) := hXc.cell 2
            clear hTc hXc
            go_wp2_with fail
            go_loopw [74] (fun i wr => RaL t ks wc i wr) (fun i _ => ks.length - (intOf i).toNat)
            case atStart => exact ⟨0, Nat.zero_le _, rfl, by simp [allowRs], Below.refl _ _⟩
            case round =>
              obtain ⟨wo, hwo⟩ : ∃ wo : World, wo = wr := ⟨_, rfl⟩
              subst hwo
              obtain ⟨m, hm, rfl, hal, hb⟩ := hrel
              have HAl := Lib.hid hal
              have HB := Lib.hid hb
              have hTo := HTc.out.below hb HTc.out.lt
              have c0 : wo.cell? ⟨w.heap.size, 0, none⟩ = some (.int .i64 t.terms) := hTo.cell 0
              have c1 : wo.cell? ⟨w.heap.size, 1, none⟩ = some (.int .i64 t.atom) := hTo.cell 1
              have c2 : wo.cell? ⟨w.heap.size, 2, none⟩ = some (.int .i64 t.opn) := hTo.cell 2
              have c3 : wo.cell? ⟨w.heap.size, 3, none⟩ = some (.int .i64 t.cls) := hTo.cell 3
              have c4 : wo.cell? ⟨w.heap.size, 4, none⟩ = some (.slice A t.levels.length c) := hTo.cell 4
              have zt : w.heap.size < wo.heap.size := hTo.lt
              clear hal hb hTo x2c
              by_cases hlt : m < ks.length
              · obtain ⟨k, hk⟩ := get_some hlt
                obtain ⟨bk, ok, Ax, cx, eB, hSk, hbk, hxi, hxt, hx1, hx2, hEx, kc0, kc1, kc2⟩ := (HXc.out.2.2.below HB.out).tree hk
                first | subst eB | (injection eB with eB; injection eB with e1 e2 _; subst e1; subst e2)
                have hba2 : Below wo.heap.size wo (wo.alloc (.cells #[.int .i64 k.rule, .int .i64 k.term, .slice Ax k.kids.length cx] 27)) := (Below.refl _ _).alloc (Nat.le_refl _) _
                have HX := Lib.hid (And.intro (List.mem_of_getElem? hk) (And.intro (hEx.below hba2) (And.intro hba2 ((HXc.out.2.1.below HB.out).below hba2))))
                have HTk := Lib.hid (allowRs_take t ks m k hk)
                have hm0 : (0 : Int) ≤ (m : Int) := by omega
                have hm1 : (m : Int) < (ks.length : Int) := by omega
                clear hk hxi hxt hEx hba2
                by_cases hkr : k.rule < 0
                · have HE3 := Lib.hid (show allowRs t (ks.take (m + 1)) = true by rw [HTk.out, HAl.out, decide_eq_true hkr]; rfl)
                  have hkr' : ¬ (0 : Int) ≤ k.rule := by omega
                  clear hkr
                  go_wp2_with fail
                  go_roundw
                  case rel => exact ⟨m + 1, hlt, by go_num, HE3.out, bthen HB.out HX.out.2.2.1 HB.out.size⟩
                  case measure => simp [intOf]; omega
                · have HKr := Lib.hid hkr
                  have hkr' : (0 : Int) ≤ k.rule := by omega
                  clear hkr
                  go_wp2_with fail
                  refine (IH.out k HX.out.1 A Ax cx _ hx1 hx2 HX.out.2.1 HX.out.2.2.2).mono ?_
                  rintro e w5 ⟨rfl, hb5⟩
                  have HB5 := Lib.hid (bthen HB.out (bthen HX.out.2.2.1 hb5 (by simp)) HB.out.size)
                  clear hb5
                  cases hak : allowR t k
                  · have HE3 := Lib.hid (show allowR t ⟨r, tm, ks⟩ = false by rw [HE2.out, allowRs_mem t ks k HX.out.1 (by have := HKr.out; omega) hak])
                    clear hak
                    go_wp2
                    go_ret
                    exact ⟨ret_bool HE3.out.symm, bthen H1.out.1 (bthen HBc.out HB5.out HBc.out.size) H1.out.1.size⟩
                  · have HE3 := Lib.hid (show allowRs t (ks.take (m + 1)) = true by rw [HTk.out, HAl.out, hak, Bool.or_true]; rfl)
                    clear hak
                    go_wp2
                    go_roundw
                    case rel => exact ⟨m + 1, hlt, by go_num, HE3.out, HB5.out⟩
                    case measure => simp [intOf]; omega
              · have HE3 := Lib.hid (show allowR t ⟨r, tm, ks⟩ = true by
                  have h := HAl.out
                  rw [List.take_of_length_le (by omega)] at h
                  rw [HE2.out, h])
                go_wp2
                go_ret
                exact ⟨ret_bool HE3.out.symm, bthen H1.out.1 (bthen HBc.out HB.out HBc.out.size) H1.out.1.size⟩
        · have q3 : ((ks.length : Int) == 3) = false := by simp; omega
          have HNode := Lib.hid (show nodeR t ks = true by rw [HQ.out, decide_eq_true (show ks.length ≠ 3 from h3)]; rfl)
          clear h3
          obtain ⟨wc, hwc⟩ : ∃ wc : World, wc = w3 := ⟨_, rfl⟩
          subst hwc
          have HBc := Lib.hid HB3.out
          -- the world is wc; HBc: Below w.heap.size w wc; HNode: nodeR t ks = true
          have HE2 := Lib.hid (show allowR t ⟨r, tm, ks⟩ = allowRs t ks by rw [allowR, HNode.out]; rfl)
          have hTc := H1.out.2.1.below HBc.out H1.out.2.1.lt
          have hXc := H1.out.2.2.1.below HBc.out H1.out.2.2.1.lt
          have HTc := Lib.hid hTc
          have HXc := Lib.hid (And.intro hXc (And.intro (H1.out.2.2.2.1.below HBc.out) (H1.out.2.2.2.2.below HBc.out)))
          have x2c : wc.cell? ⟨w.heap.size + 1, 2, none⟩ = some (.slice _ ks.length d) := hXc.cell 2
          clear hTc hXc
          go_wp2_with fail
          go_loopw [74] (fun i wr => RaL t ks wc i wr) (fun i _ => ks.length - (intOf i).toNat)
          case atStart => exact ⟨0, Nat.zero_le _, rfl, by simp [allowRs], Below.refl _ _⟩
          case round =>
            obtain ⟨wo, hwo⟩ : ∃ wo : World, wo = wr := ⟨_, rfl⟩
            subst hwo
            obtain ⟨m, hm, rfl, hal, hb⟩ := hrel
            have HAl := Lib.hid hal
            have HB := Lib.hid hb
            have hTo := HTc.out.below hb HTc.out.lt
            have c0 : wo.cell? ⟨w.heap.size, 0, none⟩ = some (.int .i64 t.terms) := hTo.cell 0
            have c1 : wo.cell? ⟨w.heap.size, 1, none⟩ = some (.int .i64 t.atom) := hTo.cell 1
            have c2 : wo.cell? ⟨w.heap.size, 2, none⟩ = some (.int .i64 t.opn) := hTo.cell 2
            have c3 : wo.cell? ⟨w.heap.size, 3, none⟩ = some (.int .i64 t.cls) := hTo.cell 3
            have c4 : wo.cell? ⟨w.heap.size, 4, none⟩ = some (.slice A t.levels.length c) := hTo.cell 4
            have zt : w.heap.size < wo.heap.size := hTo.lt
            clear hal hb hTo x2c
            by_cases hlt : m < ks.length
            · obtain ⟨k, hk⟩ := get_some hlt
              obtain ⟨bk, ok, Ax, cx, eB, hSk, hbk, hxi, hxt, hx1, hx2, hEx, kc0, kc1, kc2⟩ := (HXc.out.2.2.below HB.out).tree hk
              first | subst eB | (injection eB with eB; injection eB with e1 e2 _; subst e1; subst e2)
              have hba2 : Below wo.heap.size wo (wo.alloc (.cells #[.int .i64 k.rule, .int .i64 k.term, .slice Ax k.kids.length cx] 27)) := (Below.refl _ _).alloc (Nat.le_refl _) _
              have HX := Lib.hid (And.intro (List.mem_of_getElem? hk) (And.intro (hEx.below hba2) (And.intro hba2 ((HXc.out.2.1.below HB.out).below hba2))))
              have HTk := Lib.hid (allowRs_take t ks m k hk)
              have hm0 : (0 : Int) ≤ (m : Int) := by omega
              have hm1 : (m : Int) < (ks.length : Int) := by omega
              clear hk hxi hxt hEx hba2
              by_cases hkr : k.rule < 0
              · have HE3 := Lib.hid (show allowRs t (ks.take (m + 1)) = true by rw [HTk.out, HAl.out, decide_eq_true hkr]; rfl)
                have hkr' : ¬ (0 : Int) ≤ k.rule := by omega
                clear hkr
                go_wp2_with fail
                go_roundw
                case rel => exact ⟨m + 1, hlt, by go_num, HE3.out, bthen HB.out HX.out.2.2.1 HB.out.size⟩
                case measure => simp [intOf]; omega
              · have HKr := Lib.hid hkr
                have hkr' : (0 : Int) ≤ k.rule := by omega
                clear hkr
                go_wp2_with fail
                refine (IH.out k HX.out.1 A Ax cx _ hx1 hx2 HX.out.2.1 HX.out.2.2.2).mono ?_
                rintro e w5 ⟨rfl, hb5⟩
                have HB5 := Lib.hid (bthen HB.out (bthen HX.out.2.2.1 hb5 (by simp)) HB.out.size)
                clear hb5
                cases hak : allowR t k
                · have HE3 := Lib.hid (show allowR t ⟨r, tm, ks⟩ = false by rw [HE2.out, allowRs_mem t ks k HX.out.1 (by have := HKr.out; omega) hak])
                  clear hak
                  go_wp2
                  go_ret
                  exact ⟨ret_bool HE3.out.symm, bthen H1.out.1 (bthen HBc.out HB5.out HBc.out.size) H1.out.1.size⟩
                · have HE3 := Lib.hid (show allowRs t (ks.take (m + 1)) = true by rw [HTk.out, HAl.out, hak, Bool.or_true]; rfl)
                  clear hak
                  go_wp2
                  go_roundw
                  case rel => exact ⟨m + 1, hlt, by go_num, HE3.out, HB5.out⟩
                  case measure => simp [intOf]; omega
            · have HE3 := Lib.hid (show allowR t ⟨r, tm, ks⟩ = true by
                have h := HAl.out
                rw [List.take_of_length_le (by omega)] at h
                rw [HE2.out, h])
              go_wp2
              go_ret
              exact ⟨ret_bool HE3.out.symm, bthen H1.out.1 (bthen HBc.out HB.out HBc.out.size) H1.out.1.size⟩
    · have c2' : (rr == i) = false := by simp [c2]
      have HQ := Lib.hid (show nodeR t ks = (decide (ks.length ≠ 3) || !(decide ((opOfE t (headT ks).kids).1 < i) || decide ((opOfE t (headT ks).kids).1 = i) && decide (kd ≠ 1))) by rw [HR.out, decide_eq_false c1, decide_eq_false c2]; rfl)
      clear c2 HR
      by_cases h3 : ks.length = 3
      · have q3 : ((ks.length : Int) == 3) = true := by simp; omega
        have hl3 : ks.length = 3 := h3
        have HQ2 := Lib.hid (show nodeR t ks = !(decide ((opOfE t (headT ks).kids).1 < i) || decide ((opOfE t (headT ks).kids).1 = i) && decide (kd ≠ 1)) by rw [HQ.out, decide_eq_false (by simp [hl3])]; rfl)
        obtain ⟨z, hz⟩ := get_some (show 0 < ks.length by omega)
        have HZ := Lib.hid (show headT ks = z by
          unfold headT
          cases ks with
          | nil => simp at hz
          | cons a l => simp at hz; subst hz; rfl)
        obtain ⟨bz, oz, Az, cz, eBz, hSz, hbz, hzi, hzt, hz1, hz2, hEz, kz0, kz1, kz2⟩ := (H1.out.2.2.2.2.below HB3.out).tree hz
        have x2 : w3.cell? ⟨w.heap.size + 1, 2, none⟩ = some (.slice _ ks.length d) := (H1.out.2.2.1.below HB3.out H1.out.2.2.1.lt).cell 2
        injection eBz with eBz
        injection eBz with e1 e2 _
        subst e1; subst e2
        have hT3 := H1.out.2.1.below HB3.out H1.out.2.1.lt
        have t0 : w3.cell? ⟨w.heap.size, 0, none⟩ = some (.int .i64 t.terms) := hT3.cell 0
        have t1 : w3.cell? ⟨w.heap.size, 1, none⟩ = some (.int .i64 t.atom) := hT3.cell 1
        have t2 : w3.cell? ⟨w.heap.size, 2, none⟩ = some (.int .i64 t.opn) := hT3.cell 2
        have t3 : w3.cell? ⟨w.heap.size, 3, none⟩ = some (.int .i64 t.cls) := hT3.cell 3
        have t4 : w3.cell? ⟨w.heap.size, 4, none⟩ = some (.slice A t.levels.length c) := hT3.cell 4
        have k0 : w3.cell? ⟨bk, ok, none⟩ = some (.int .i64 z.rule) := by simpa using kz0
        have k1 : w3.cell? ⟨bk, ok + 1, none⟩ = some (.int .i64 z.term) := by simpa using kz1
        have k2 : w3.cell? ⟨bk, ok + 1 + 1, none⟩ = some (.slice Az z.kids.length cz) := by simpa using kz2
        have hks0 : 0 < ks.length := by omega
        have zt3 : w.heap.size < w3.heap.size := hT3.lt
        have zx3 : w.heap.size + 1 < w3.heap.size := (H1.out.2.2.1.below HB3.out H1.out.2.2.1.lt).lt
        have HEz := Lib.hid hEz
        clear h3 hl3 hz kz0 kz1 kz2 hEz hzi hzt hT3 HQ
        go_wp2_with fail
        go_region_held3 (fun w' => w'.cell? ⟨w.heap.size, 0, none⟩ = some (.int .i64 t.terms) ∧ w'.cell? ⟨w.heap.size, 1, none⟩ = some (.int .i64 t.atom) ∧ w'.cell? ⟨w.heap.size, 2, none⟩ = some (.int .i64 t.opn) ∧ w'.cell? ⟨w.heap.size, 3, none⟩ = some (.int .i64 t.cls) ∧ w'.cell? ⟨w.heap.size, 4, none⟩ = some (.slice A t.levels.length c) ∧ w'.cell? ⟨w.heap.size + 1, 2, none⟩ = some (.slice (some ⟨bk, ok, none⟩) ks.length d) ∧ w'.cell? ⟨bk, ok, none⟩ = some (.int .i64 z.rule) ∧ w'.cell? ⟨bk, ok + 1, none⟩ = some (.int .i64 z.term) ∧ w'.cell? ⟨bk, ok + 1 + 1, none⟩ = some (.slice Az z.kids.length cz)) (go_keep)
          ((go_at_call 58
            refine (opOf_any t z A Az c cz S S' _ hln ((H1.out.2.2.2.1.below HB3.out).below (Below.refl _ _).drew) hz1 hz2 (HEz.out.below (Below.refl _ _).drew)).mono ?_
            rintro e w4 ⟨rfl, hb4⟩
            obtain ⟨lr, lk, hop3⟩ : ∃ i kd, opOfE t z.kids = (i, kd) := ⟨_, _, rfl⟩
            rw [hop3]
            dsimp only
            have HQ3 := Lib.hid (show nodeR t ks = !(decide (lr < i) || decide (lr = i) && decide (kd ≠ 1)) by rw [HQ2.out, HZ.out, hop3])
            have HC4 := Lib.hid (bundrew hb4)
            clear hop3 hb4
            have m0 := (HC4.out.cell (p := ⟨w.heap.size, 0, none⟩) zt3).trans t0
            have m1 := (HC4.out.cell (p := ⟨w.heap.size, 1, none⟩) zt3).trans t1
            have m2 := (HC4.out.cell (p := ⟨w.heap.size, 2, none⟩) zt3).trans t2
            have m3 := (HC4.out.cell (p := ⟨w.heap.size, 3, none⟩) zt3).trans t3
            have m4 := (HC4.out.cell (p := ⟨w.heap.size, 4, none⟩) zt3).trans t4
            have m5 := (HC4.out.cell (p := ⟨w.heap.size + 1, 2, none⟩) zx3).trans x2
            have m6 := (HC4.out.cell (p := ⟨bk, ok, none⟩) hbz).trans k0
            have m7 := (HC4.out.cell (p := ⟨bk, ok + 1, none⟩) hbz).trans k1
            have m8 := (HC4.out.cell (p := ⟨bk, ok + 1 + 1, none⟩) hbz).trans k2))
        have HB4 := Lib.hid (bthen HB3.out HC4.out HB3.out.size)
        clear t0 t1 t2 t3 t4 x2 k0 k1 k2 HQ2 m0 m1 m2 m3 m4 m5 m6 m7 m8
        have HBw4 := Lib.hid (bthen H1.out.1 HB4.out H1.out.1.size)
        by_cases d1 : lr < i
        · have HF := Lib.hid (show allowR t ⟨r, tm, ks⟩ = false by rw [allowR, HQ3.out, decide_eq_true d1]; rfl)
          go_wp2
          go_ret
          exact ⟨ret_bool HF.out.symm, HBw4.out⟩
        by_cases d2 : lr = i
        · have d2' : (lr == i) = true := by simp [d2]
          by_cases d3 : kd = 1
          · have d3' : (kd != 1) = false := by simp [d3]
            have HNode := Lib.hid (show nodeR t ks = true by rw [HQ3.out, decide_eq_false d1, decide_eq_false (show ¬ kd ≠ 1 by simp [d3]), Bool.and_false]; rfl)
            clear d2 d3
            obtain ⟨wc, hwc⟩ : ∃ wc : World, wc = w4 := ⟨_, rfl⟩
            subst hwc
            have HBc := Lib.hid HB4.out
            -- the world is wc; HBc: Below w.heap.size w wc; HNode: nodeR t ks = true
            have HE2 := Lib.hid (show allowR t ⟨r, tm, ks⟩ = allowRs t ks by rw [allowR, HNode.out]; rfl)
            have hTc := H1.out.2.1.below HBc.out H1.out.2.1.lt
            have hXc := H1.out.2.2.1.below HBc.out H1.out.2.2.1.lt
            have HTc := Lib.hid hTc
            have HXc := Lib.hid (And.intro hXc (And.intro (H1.out.2.2.2.1.below HBc.out) (H1.out.2.2.2.2.below HBc.out)))
            have x2c : wc.cell? ⟨w.heap.size + 1, 2, none⟩ = some (.slice _ ks.length d) := hXc.cell 2
            clear hTc hXc
            go_wp2_with fail
            go_loopw [74] (fun i wr => RaL t ks wc i wr) (fun i _ => ks.length - (intOf i).toNat)
            case atStart => exact ⟨0, Nat.zero_le _, rfl, by simp [allowRs], Below.refl _ _⟩
            case round =>
              obtain ⟨wo, hwo⟩ : ∃ wo : World, wo = wr := ⟨_, rfl⟩
              subst hwo
              obtain ⟨m, hm, rfl, hal, hb⟩ := hrel
              have HAl := Lib.hid hal
              have HB := Lib.hid hb
              have hTo := HTc.out.below hb HTc.out.lt
              have c0 : wo.cell? ⟨w.heap.size, 0, none⟩ = some (.int .i64 t.terms) := hTo.cell 0
              have c1 : wo.cell? ⟨w.heap.size, 1, none⟩ = some (.int .i64 t.atom) := hTo.cell 1
              have c2 : wo.cell? ⟨w.heap.size, 2, none⟩ = some (.int .i64 t.opn) := hTo.cell 2
              have c3 : wo.cell? ⟨w.heap.size, 3, none⟩ = some (.int .i64 t.cls) := hTo.cell 3
              have c4 : wo.cell? ⟨w.heap.size, 4, none⟩ = some (.slice A t.levels.length c) := hTo.cell 4
              have zt : w.heap.size < wo.heap.size := hTo.lt
              clear hal hb hTo x2c
              by_cases hlt : m < ks.length
              · obtain ⟨k, hk⟩ := get_some hlt
                obtain ⟨bk, ok, Ax, cx, eB, hSk, hbk, hxi, hxt, hx1, hx2, hEx, kc0, kc1, kc2⟩ := (HXc.out.2.2.below HB.out).tree hk
                first | subst eB | (injection eB with eB; injection eB with e1 e2 _; subst e1; subst e2)
                have hba2 : Below wo.heap.size wo (wo.alloc (.cells #[.int .i64 k.rule, .int .i64 k.term, .slice Ax k.kids.length cx] 27)) := (Below.refl _ _).alloc (Nat.le_refl _) _
                have HX := Lib.hid (And.intro (List.mem_of_getElem? hk) (And.intro (hEx.below hba2) (And.intro hba2 ((HXc.out.2.1.below HB.out).below hba2))))
                have HTk := Lib.hid (allowRs_take t ks m k hk)
                have hm0 : (0 : Int) ≤ (m : Int) := by omega
                have hm1 : (m : Int) < (ks.length : Int) := by omega
                clear hk hxi hxt hEx hba2
                by_cases hkr : k.rule < 0
                · have HE3 := Lib.hid (show allowRs t (ks.take (m + 1)) = true by rw [HTk.out, HAl.out, decide_eq_true hkr]; rfl)
                  have hkr' : ¬ (0 : Int) ≤ k.rule := by omega
                  clear hkr
                  go_wp2_with fail
                  go_roundw
                  case rel => exact ⟨m + 1, hlt, by go_num, HE3.out, bthen HB.out HX.out.2.2.1 HB.out.size⟩
                  case measure => simp [intOf]; omega
                · have HKr := Lib.hid hkr
                  have hkr' : (0 : Int) ≤ k.rule := by omega
                  clear hkr
                  go_wp2_with fail
                  refine (IH.out k HX.out.1 A Ax cx _ hx1 hx2 HX.out.2.1 HX.out.2.2.2).mono ?_
                  rintro e w5 ⟨rfl, hb5⟩
                  have HB5 := Lib.hid (bthen HB.out (bthen HX.out.2.2.1 hb5 (by simp)) HB.out.size)
                  clear hb5
                  cases hak : allowR t k
                  · have HE3 := Lib.hid (show allowR t ⟨r, tm, ks⟩ = false by rw [HE2.out, allowRs_mem t ks k HX.out.1 (by have := HKr.out; omega) hak])
                    clear hak
                    go_wp2
                    go_ret
                    exact ⟨ret_bool HE3.out.symm, bthen H1.out.1 (bthen HBc.out HB5.out HBc.out.size) H1.out.1.size⟩
                  · have HE3 := Lib.hid (show allowRs t (ks.take (m + 1)) = true by rw [HTk.out, HAl.out, hak, Bool.or_true]; rfl)
                    clear hak
                    go_wp2
                    go_roundw
                    case rel => exact ⟨m + 1, hlt, by go_num, HE3.out, HB5.out⟩
                    case measure => simp [intOf]; omega
              · have HE3 := Lib.hid (show allowR t ⟨r, tm, ks⟩ = true by
                  have h := HAl.out
                  rw [List.take_of_length_le (by omega)] at h
                  rw [HE2.out, h])
                go_wp2
                go_ret
                exact ⟨ret_bool HE3.out.symm, bthen H1.out.1 (bthen HBc.out HB.out HBc.out.size) H1.out.1.size⟩
          · have d3' : (kd != 1) = true := by simp [d3]
            have HF := Lib.hid (show allowR t ⟨r, tm, ks⟩ = false by rw [allowR, HQ3.out, decide_eq_true d2, decide_eq_true d3, Bool.and_true, Bool.or_true]; rfl)
            clear d2 d3
            go_wp2
            go_ret
            exact ⟨ret_bool HF.out.symm, HBw4.out⟩
        · have d2' : (lr == i) = false := by simp [d2]
          have HNode := Lib.hid (show nodeR t ks = true by rw [HQ3.out, decide_eq_false d1, decide_eq_false d2]; rfl)
          clear d2
          obtain ⟨wc, hwc⟩ : ∃ wc : World, wc = w4 := ⟨_, rfl⟩
          subst hwc
          have HBc := Lib.hid HB4.out
          -- the world is wc; HBc: Below w.heap.size w wc; HNode: nodeR t ks = true
          have HE2 := Lib.hid (show allowR t ⟨r, tm, ks⟩ = allowRs t ks by rw [allowR, HNode.out]; rfl)
          have hTc := H1.out.2.1.below HBc.out H1.out.2.1.lt
          have hXc := H1.out.2.2.1.below HBc.out H1.out.2.2.1.lt
          have HTc := Lib.hid hTc
          have HXc := Lib.hid (And.intro hXc (And.intro (H1.out.2.2.2.1.below HBc.out) (H1.out.2.2.2.2.below HBc.out)))
          have x2c : wc.cell? ⟨w.heap.size + 1, 2, none⟩ = some (.slice _ ks.length d) := hXc.cell 2
          clear hTc hXc
          go_wp2_with fail
          go_loopw [74] (fun i wr => RaL t ks wc i wr) (fun i _ => ks.length - (intOf i).toNat)
          case atStart => exact ⟨0, Nat.zero_le _, rfl, by simp [allowRs], Below.refl _ _⟩
          case round =>
            obtain ⟨wo, hwo⟩ : ∃ wo : World, wo = wr := ⟨_, rfl⟩
            subst hwo
            obtain ⟨m, hm, rfl, hal, hb⟩ := hrel
            have HAl := Lib.hid hal
            have HB := Lib.hid hb
            have hTo := HTc.out.below hb HTc.out.lt
            have c0 : wo.cell? ⟨w.heap.size, 0, none⟩ = some (.int .i64 t.terms) := hTo.cell 0
            have c1 : wo.cell? ⟨w.heap.size, 1, none⟩ = some (.int .i64 t.atom) := hTo.cell 1
            have c2 : wo.cell? ⟨w.heap.size, 2, none⟩ = some (.int .i64 t.opn) := hTo.cell 2
            have c3 : wo.cell? ⟨w.heap.size, 3, none⟩ = some (.int .i64 t.cls) := hTo.cell 3
            have c4 : wo.cell? ⟨w.heap.size, 4, none⟩ = some (.slice A t.levels.length c) := hTo.cell 4
            have zt : w.heap.size < wo.heap.size := hTo.lt
            clear hal hb hTo x2c
            by_cases hlt : m < ks.length
            · obtain ⟨k, hk⟩ := get_some hlt
              obtain ⟨bk, ok, Ax, cx, eB, hSk, hbk, hxi, hxt, hx1, hx2, hEx, kc0, kc1, kc2⟩ := (HXc.out.2.2.below HB.out).tree hk
              first | subst eB | (injection eB with eB; injection eB with e1 e2 _; subst e1; subst e2)
              have hba2 : Below wo.heap.size wo (wo.alloc (.cells #[.int .i64 k.rule, .int .i64 k.term, .slice Ax k.kids.length cx] 27)) := (Below.refl _ _).alloc (Nat.le_refl _) _
              have HX := Lib.hid (And.intro (List.mem_of_getElem? hk) (And.intro (hEx.below hba2) (And.intro hba2 ((HXc.out.2.1.below HB.out).below hba2))))
              have HTk := Lib.hid (allowRs_take t ks m k hk)
              have hm0 : (0 : Int) ≤ (m : Int) := by omega
              have hm1 : (m : Int) < (ks.length : Int) := by omega
              clear hk hxi hxt hEx hba2
              by_cases hkr : k.rule < 0
              · have HE3 := Lib.hid (show allowRs t (ks.take (m + 1)) = true by rw [HTk.out, HAl.out, decide_eq_true hkr]; rfl)
                have hkr' : ¬ (0 : Int) ≤ k.rule := by omega
                clear hkr
                go_wp2_with fail
                go_roundw
                case rel => exact ⟨m + 1, hlt, by go_num, HE3.out, bthen HB.out HX.out.2.2.1 HB.out.size⟩
                case measure => simp [intOf]; omega
              · have HKr := Lib.hid hkr
                have hkr' : (0 : Int) ≤ k.rule := by omega
                clear hkr
                go_wp2_with fail
                refine (IH.out k HX.out.1 A Ax cx _ hx1 hx2 HX.out.2.1 HX.out.2.2.2).mono ?_
                rintro e w5 ⟨rfl, hb5⟩
                have HB5 := Lib.hid (bthen HB.out (bthen HX.out.2.2.1 hb5 (by simp)) HB.out.size)
                clear hb5
                cases hak : allowR t k
                · have HE3 := Lib.hid (show allowR t ⟨r, tm, ks⟩ = false by rw [HE2.out, allowRs_mem t ks k HX.out.1 (by have := HKr.out; omega) hak])
                  clear hak
                  go_wp2
                  go_ret
                  exact ⟨ret_bool HE3.out.symm, bthen H1.out.1 (bthen HBc.out HB5.out HBc.out.size) H1.out.1.size⟩
                · have HE3 := Lib.hid (show allowRs t (ks.take (m + 1)) = true by rw [HTk.out, HAl.out, hak, Bool.or_true]; rfl)
                  clear hak
                  go_wp2
                  go_roundw
                  case rel => exact ⟨m + 1, hlt, by go_num, HE3.out, HB5.out⟩
                  case measure => simp [intOf]; omega
            · have HE3 := Lib.hid (show allowR t ⟨r, tm, ks⟩ = true by
                have h := HAl.out
                rw [List.take_of_length_le (by omega)] at h
                rw [HE2.out, h])
              go_wp2
              go_ret
              exact ⟨ret_bool HE3.out.symm, bthen H1.out.1 (bthen HBc.out HB.out HBc.out.size) H1.out.1.size⟩
      · have q3 : ((ks.length : Int) == 3) = false := by simp; omega
        have HNode := Lib.hid (show nodeR t ks = true by rw [HQ.out, decide_eq_true (show ks.length ≠ 3 from h3)]; rfl)
        clear h3
        obtain ⟨wc, hwc⟩ : ∃ wc : World, wc = w3 := ⟨_, rfl⟩
        subst hwc
        have HBc := Lib.hid HB3.out
        -- the world is wc; HBc: Below w.heap.size w wc; HNode: nodeR t ks = true
        have HE2 := Lib.hid (show allowR t ⟨r, tm, ks⟩ = allowRs t ks by rw [allowR, HNode.out]; rfl)
        have hTc := H1.out.2.1.below HBc.out H1.out.2.1.lt
        have hXc := H1.out.2.2.1.below HBc.out H1.out.2.2.1.lt
        have HTc := Lib.hid hTc
        have HXc := Lib.hid (And.intro hXc (And.intro (H1.out.2.2.2.1.below HBc.out) (H1.out.2.2.2.2.below HBc.out)))
        have x2c : wc.cell? ⟨w.heap.size + 1, 2, none⟩ = some (.slice _ ks.length d) := hXc.cell 2
        clear hTc hXc
        go_wp2_with fail
        go_loopw [74] (fun i wr => RaL t ks wc i wr) (fun i _ => ks.length - (intOf i).toNat)
        case atStart => exact ⟨0, Nat.zero_le _, rfl, by simp [allowRs], Below.refl _ _⟩
        case round =>
          obtain ⟨wo, hwo⟩ : ∃ wo : World, wo = wr := ⟨_, rfl⟩
          subst hwo
          obtain ⟨m, hm, rfl, hal, hb⟩ := hrel
          have HAl := Lib.hid hal
          have HB := Lib.hid hb
          have hTo := HTc.out.below hb HTc.out.lt
          have c0 : wo.cell? ⟨w.heap.size, 0, none⟩ = some (.int .i64 t.terms) := hTo.cell 0
          have c1 : wo.cell? ⟨w.heap.size, 1, none⟩ = some (.int .i64 t.atom) := hTo.cell 1
          have c2 : wo.cell? ⟨w.heap.size, 2, none⟩ = some (.int .i64 t.opn) := hTo.cell 2
          have c3 : wo.cell? ⟨w.heap.size, 3, none⟩ = some (.int .i64 t.cls) := hTo.cell 3
          have c4 : wo.cell? ⟨w.heap.size, 4, none⟩ = some (.slice A t.levels.length c) := hTo.cell 4
          have zt : w.heap.size < wo.heap.size := hTo.lt
          clear hal hb hTo x2c
          by_cases hlt : m < ks.length
          · obtain ⟨k, hk⟩ := get_some hlt
            obtain ⟨bk, ok, Ax, cx, eB, hSk, hbk, hxi, hxt, hx1, hx2, hEx, kc0, kc1, kc2⟩ := (HXc.out.2.2.below HB.out).tree hk
            first | subst eB | (injection eB with eB; injection eB with e1 e2 _; subst e1; subst e2)
            have hba2 : Below wo.heap.size wo (wo.alloc (.cells #[.int .i64 k.rule, .int .i64 k.term, .slice Ax k.kids.length cx] 27)) := (Below.refl _ _).alloc (Nat.le_refl _) _
            have HX := Lib.hid (And.intro (List.mem_of_getElem? hk) (And.intro (hEx.below hba2) (And.intro hba2 ((HXc.out.2.1.below HB.out).below hba2))))
            have HTk := Lib.hid (allowRs_take t ks m k hk)
            have hm0 : (0 : Int) ≤ (m : Int) := by omega
            have hm1 : (m : Int) < (ks.length : Int) := by omega
            clear hk hxi hxt hEx hba2
            by_cases hkr : k.rule < 0
            · have HE3 := Lib.hid (show allowRs t (ks.take (m + 1)) = true by rw [HTk.out, HAl.out, decide_eq_true hkr]; rfl)
              have hkr' : ¬ (0 : Int) ≤ k.rule := by omega
              clear hkr
              go_wp2_with fail
              go_roundw
              case rel => exact ⟨m + 1, hlt, by go_num, HE3.out, bthen HB.out HX.out.2.2.1 HB.out.size⟩
              case measure => simp [intOf]; omega
            · have HKr := Lib.hid hkr
              have hkr' : (0 : Int) ≤ k.rule := by omega
              clear hkr
              go_wp2_with fail
              refine (IH.out k HX.out.1 A Ax cx _ hx1 hx2 HX.out.2.1 HX.out.2.2.2).mono ?_
              rintro e w5 ⟨rfl, hb5⟩
              have HB5 := Lib.hid (bthen HB.out (bthen HX.out.2.2.1 hb5 (by simp)) HB.out.size)
              clear hb5
              cases hak : allowR t k
              · have HE3 := Lib.hid (show allowR t ⟨r, tm, ks⟩ = false by rw [HE2.out, allowRs_mem t ks k HX.out.1 (by have := HKr.out; omega) hak])
                clear hak
                go_wp2
                go_ret
                exact ⟨ret_bool HE3.out.symm, bthen H1.out.1 (bthen HBc.out HB5.out HBc.out.size) H1.out.1.size⟩
              · have HE3 := Lib.hid (show allowRs t (ks.take (m + 1)) = true by rw [HTk.out, HAl.out, hak, Bool.or_true]; rfl)
                clear hak
                go_wp2
                go_roundw
                case rel => exact ⟨m + 1, hlt, by go_num, HE3.out, HB5.out⟩
                case measure => simp [intOf]; omega
          · have HE3 := Lib.hid (show allowR t ⟨r, tm, ks⟩ = true by
              have h := HAl.out
              rw [List.take_of_length_le (by omega)] at h
              rw [HE2.out, h])
            go_wp2
            go_ret
            exact ⟨ret_bool HE3.out.symm, bthen H1.out.1 (bthen HBc.out HB.out HBc.out.size) H1.out.1.size⟩
end Go.Proofs.Ytlbhaegdcpacpaa

