/- Contract: the reference's Starts. -/
import Derived.Test.YtpcjfgikicpioaaQTreeOf
import Derived.Test.YtpcjfgikicpioaaQp2
import Derived.Test.YtpcjfgikicpioaaQCloneIO
import Derived.Deep.RegionLaw
namespace Go.Proofs.Ytpcjfgikicpioaa
open Go.RowKit
set_option linter.unusedVariables false

theorem net1_bound (t : Table) (x : Int) : -1 ≤ net1 t x ∧ net1 t x ≤ 1 := by unfold net1; split <;> split <;> omega
theorem netW_bound (t : Table) : ∀ l : List Int, -(l.length : Int) ≤ netW t l ∧ netW t l ≤ l.length
  | [] => by simp [netW]
  | x :: l => by have h1 := net1_bound t x; have h2 := netW_bound t l; simp only [netW, List.length_cons]; omega
theorem netW_snoc (t : Table) (l : List Int) (x : Int) : netW t (l ++ [x]) = netW t l + net1 t x := by rw [netW_app]; simp [netW]
/-- The loop that counts. -/
def StL (t : Table) (l : List Int) (w : World) (r i : Value) (wr : World) : Prop := ∃ j : Nat, j ≤ l.length ∧ i = .int .i64 j ∧ r = .int .i64 (netW t (l.take j)) ∧ w = wr

set_option maxRecDepth 100000 in
set_option maxHeartbeats 4000000 in
theorem starts_any (t : Table) (A : Option Addr) (c : Nat) (S : Nat → Prop) (hv : Valid t) (h64 : I64 t.terms ∧ I64 t.atom ∧ I64 t.opn ∧ I64 t.cls) (hlc : t.levels.length ≤ c) (hc : c ≤ 9223372036854775807) (l : List Int) (h0 : l ≠ []) (hl9 : l.length ≤ 100000) (B : Option Addr) (d : Nat) (S' : Nat → Prop) (w : World) (hld : l.length ≤ d) (hd : d ≤ 9223372036854775807)
    (hA : Els w S t.levels A) (hS : ∀ b, S b → b < w.heap.size) (hB : Els w S' l B) (hS' : ∀ b, S' b → b < w.heap.size) :
    Calls Try.prog 32 #[.agg #[.int .i64 t.terms, .int .i64 t.atom, .int .i64 t.opn, .int .i64 t.cls, .slice A t.levels.length c], .slice B l.length d] w fun e w' => ∃ b : Bool, e = .returned (.bool b) ∧ (b = true ↔ Comp t 0 l) ∧ Below w.heap.size w w' := by
  have HV := Lib.hid hv
  have H64 := Lib.hid h64
  have HS := Lib.hid hS
  have HS' := Lib.hid hS'
  have H0 := Lib.hid h0
  obtain ⟨w1, hw1⟩ : ∃ w1 : World, w1 = w.alloc (.cells #[.int .i64 t.terms, .int .i64 t.atom, .int .i64 t.opn, .int .i64 t.cls, .slice A t.levels.length c] 24) := ⟨_, rfl⟩
  have hb1 : Below w.heap.size w w1 := by rw [hw1]; exact (Below.refl _ _).alloc (Nat.le_refl _) _
  have hT1 : Blk' w1 w.heap.size 24 #[.int .i64 t.terms, .int .i64 t.atom, .int .i64 t.opn, .int .i64 t.cls, .slice A t.levels.length c] := by rw [hw1]; exact Blk'.new w _ _
  have HW1 := Lib.hid hw1
  have HB1 := Lib.hid hb1
  have HT1 := Lib.hid hT1
  have HA1 := Lib.hid (hA.below hb1)
  have HL1 := Lib.hid (hB.below hb1)
  have t0 : w1.cell? ⟨w.heap.size, 0, none⟩ = some (.int .i64 t.terms) := hT1.cell 0
  have t1 : w1.cell? ⟨w.heap.size, 1, none⟩ = some (.int .i64 t.atom) := hT1.cell 1
  have t2 : w1.cell? ⟨w.heap.size, 2, none⟩ = some (.int .i64 t.opn) := hT1.cell 2
  have t3 : w1.cell? ⟨w.heap.size, 3, none⟩ = some (.int .i64 t.cls) := hT1.cell 3
  have t4 : w1.cell? ⟨w.heap.size, 4, none⟩ = some (.slice A t.levels.length c) := hT1.cell 4
  have zT : w.heap.size < w1.heap.size := hT1.lt
  clear hv h64 hS hS' hw1 hb1 hT1 hA hB h0
  go_enter Try.func32, Try.ntmps32
  go_upto_region 1 with (fail)
  rw [← HW1.out]
  go_wp2_with fail
  go_loopw [5, 16] (fun r i wr => StL t l w1 r i wr) (fun _ i _ => l.length - (intOf i).toNat)
  case atStart => exact ⟨0, Nat.zero_le _, rfl, by simp [netW], rfl⟩
  case round =>
    obtain ⟨j, hj, rfl, rfl, hwr⟩ := hrel
    subst hwr
    have hnb := netW_bound t (l.take j)
    by_cases hlt : j < l.length
    · obtain ⟨x, hx⟩ := get_some hlt
      obtain ⟨bx, ox, rfl, hSx, hbx, hxi, hxc⟩ := HL1.out.int hx
      have HX := Lib.hid hx
      have hsn : netW t (l.take (j + 1)) = netW t (l.take j) + net1 t x := by rw [take_snoc hx, netW_snoc]
      have HSn := Lib.hid hsn
      have j0 : (0 : Int) ≤ (j : Int) := by omega
      have j1 : (j : Int) < (l.length : Int) := by omega
      have hlt9 : (l.take j).length ≤ 100000 := by rw [List.length_take]; omega
      obtain ⟨r, hr⟩ : ∃ r : Int, r = netW t (l.take j) := ⟨_, rfl⟩
      rw [← hr] at hnb ⊢
      have hr1 : IntKind.i64.wrap (r + 1) = r + 1 := IntWalk.i64_in _ (by omega)
      have hr2 : IntKind.i64.wrap (r - 1) = r - 1 := IntWalk.i64_in _ (by omega)
      have hr3 : IntKind.i64.wrap (r + 1 - 1) = r + 1 - 1 := IntWalk.i64_in _ (by omega)
      have HRr := Lib.hid hr
      clear hx hsn hr
      by_cases hop : t.opn = -1
      · have E1 : (t.opn != -1) = false := by simp [hop]
        have HN := Lib.hid (show net1 t x = 0 by simp [net1, hop])
        clear hop
        go_wp2
        go_roundw
        case rel => exact ⟨j + 1, hlt, by go_num, by rw [HSn.out, HN.out, HRr.out, Int.add_zero], rfl⟩
        case measure => simp [intOf]; omega
      · have E1 : (t.opn != -1) = true := by simp [hop]
        have HOp := Lib.hid hop
        clear hop
        by_cases e1 : x = t.opn
        · have E2 : (x == t.opn) = true := by simp [e1]
          have HX1 := Lib.hid e1
          clear e1
          by_cases e2 : x = t.cls
          · have E3 : (x == t.cls) = true := by simp [e2]
            have HN := Lib.hid (show net1 t x = 0 by unfold net1; rw [if_pos ⟨HOp.out, HX1.out⟩, if_pos ⟨HOp.out, e2⟩]; rfl)
            clear e2
            go_wp2
            go_roundw
            case rel => exact ⟨j + 1, hlt, by go_num, by rw [HSn.out, HN.out, ← HRr.out]; congr 1; omega, rfl⟩
            case measure => simp [intOf]; omega
          · have E3 : (x == t.cls) = false := by simp [e2]
            have HN := Lib.hid (show net1 t x = 1 by unfold net1; rw [if_pos ⟨HOp.out, HX1.out⟩, if_neg (fun h => e2 h.2)]; rfl)
            clear e2
            go_wp2
            go_roundw
            case rel => exact ⟨j + 1, hlt, by go_num, by rw [HSn.out, HN.out, ← HRr.out], rfl⟩
            case measure => simp [intOf]; omega
        · have E2 : (x == t.opn) = false := by simp [e1]
          have HX1 := Lib.hid e1
          clear e1
          by_cases e2 : x = t.cls
          · have E3 : (x == t.cls) = true := by simp [e2]
            have HN := Lib.hid (show net1 t x = -1 by unfold net1; rw [if_neg (fun h => HX1.out h.2), if_pos ⟨HOp.out, e2⟩]; rfl)
            clear e2
            go_wp2
            go_roundw
            case rel => exact ⟨j + 1, hlt, by go_num, by rw [HSn.out, HN.out, ← HRr.out]; congr 1, rfl⟩
            case measure => simp [intOf]; omega
          · have E3 : (x == t.cls) = false := by simp [e2]
            have HN := Lib.hid (show net1 t x = 0 by unfold net1; rw [if_neg (fun h => HX1.out h.2), if_neg (fun h => e2 h.2)]; rfl)
            clear e2
            go_wp2
            go_roundw
            case rel => exact ⟨j + 1, hlt, by go_num, by rw [HSn.out, HN.out, HRr.out, Int.add_zero], rfl⟩
            case measure => simp [intOf]; omega
    · have HNt : Hid (netW t (l.take j) = netW t l) := Lib.hid (by rw [List.take_of_length_le (by omega)])
      rw [HNt.out] at hnb ⊢
      obtain ⟨nn, hnn⟩ : ∃ nn : Int, nn = netW t l := ⟨_, rfl⟩
      rw [← hnn] at hnb ⊢
      have HNn := Lib.hid hnn
      have hlt9 : (l.take j).length ≤ 100000 := by rw [List.length_take]; omega
      clear hnn
      go_wp2_with fail
      refine (cloneIntO_any l B d _ S' w1 rfl H0.out (by omega) HL1.out (fun b h => Nat.lt_of_lt_of_le (HS'.out b h) HB1.out.size)).mono ?_
      rintro e w2 ⟨v8, rfl, ho8, hb2⟩
      have hT2 := HT1.out.below hb2 HT1.out.lt
      have HL2 := Lib.hid (HL1.out.below hb2)
      have HA2 := Lib.hid (HA1.out.below hb2)
      have HO8 := Lib.hid ho8
      have HB2 := Lib.hid hb2
      have HT2 := Lib.hid hT2
      have q1 : w2.cell? ⟨w.heap.size, 1, none⟩ = some (.int .i64 t.atom) := hT2.cell 1
      have zT2 : w.heap.size < w2.heap.size := hT2.lt
      clear ho8 hb2 hT2 t0 t1 t2 t3 t4
      have hB8 := HO8.out.block
      have HB8 := Lib.hid hB8
      have HB1x := Lib.hid HB2.out.size
      clear hB8
      go_upto_region 11 with (fail)
      go_cut [9] (fun v wx => Two wx (fun _ => False) w1.heap.size 3 3 v8 v l (l ++ [t.atom]) ∧ Below w2.heap.size w2 wx)
      case first =>
        go_region_law
          (first
          | (go_simp
             go_at_call 54
             first
             | (refine (cloneIntO_any l B d _ S' _ rfl H0.out (by omega) (HL2.out.below (below_drew _)) (fun b h => Nat.lt_of_lt_of_le (HS'.out b h) (Nat.le_trans HB1.out.size HB2.out.size))).mono ?_
                rintro e w3 ⟨v9, rfl, ho, hb⟩
                have hbe := bundrew hb
                have HO9 : Hid (OwnX (w3.alloc (.cells #[.int .i64 t.atom] 3)) (fun _ => False) w2.heap.size 3 v9 l ∧ At (w3.alloc (.cells #[.int .i64 t.atom] 3)) w3.heap.size 0 [.int .i64 t.atom]) := Lib.hid ⟨OwnX.below ho ((Below.refl w3.heap.size w3).alloc (Nat.le_refl _) _) (Nat.le_refl _), At.new _ _ _⟩)
             | (refine (cloneIntO_any l B d _ S' _ rfl H0.out (by omega) (HL2.out.below ((below_drew _).alloc (Nat.le_refl _) _)) (fun b h => Nat.lt_of_lt_of_le (HS'.out b h) (Nat.le_trans (Nat.le_trans HB1.out.size HB2.out.size) ((below_drew w2).alloc (Nat.le_refl _) _).size))).mono ?_
                rintro e w3 ⟨v9, rfl, ho, hb⟩
                have hbe := bthen ((below_drew w2).alloc (Nat.le_refl _) _) hb ((below_drew w2).alloc (Nat.le_refl _) _).size
                have hN : Blk' w3 w2.heap.size 3 #[.int .i64 t.atom] := (Blk'.new w2.drew 3 #[.int .i64 t.atom]).below hb (Blk'.new w2.drew _ _).lt
                have HO9 : Hid (OwnX w3 (fun _ => False) w2.heap.size 3 v9 l ∧ At w3 w2.heap.size 0 [.int .i64 t.atom]) := Lib.hid ⟨ho.lower ((below_drew w2).alloc (Nat.le_refl _) _).size, fun i u hu => by
                  match i, hu with
                  | 0, hu => simp at hu; subst hu; exact hN.cell 0⟩)
             have q1' : w3.cell? ⟨w.heap.size, 1, none⟩ = some (.int .i64 t.atom) := (HT2.out.below hbe HT2.out.lt).cell 1
             have z3 : w.heap.size < w3.heap.size := Nat.lt_of_lt_of_le zT2 hbe.size
             have HB3 := Lib.hid hbe
             have z23 := hbe.size
             clear ho hb hbe)
          | (refine stepX_own1 _ (by rfl) _ _ elemInt (by rfl) (by rfl) HO9.out.1 t.atom [.int .i64 t.atom] (by rfl) HO9.out.2 ⟨rfl, H64.out.2.1⟩ (by omega) (by omega) (by first | omega | (simp; omega)) ?_
             intro v' w9 hown9 hg9 hat9
             have H9 := Lib.hid (And.intro hown9 (And.intro hg9 hat9))
             clear hown9 hg9 hat9))
        all_goals
          go_wp2
          go_meet
          first
          | exact two_done HO8.out HB1x.out (HB3.out.alloc z23 _) HO9.out.1 H9.out.2.1 (H9.out.1.lower HB1x.out) (fun k hk => (H9.out.1.block k hk).1)
          | exact two_done HO8.out HB1x.out HB3.out HO9.out.1 H9.out.2.1 (H9.out.1.lower HB1x.out) (fun k hk => (H9.out.1.block k hk).1)
          | trace_state
      case rest =>
      obtain ⟨htw, hbc⟩ := hcut
      obtain ⟨wp, hwp⟩ : ∃ wp : World, wp = wc := ⟨_, rfl⟩
      subst hwp
      have HTw := Lib.hid htw
      have HBp := Lib.hid hbc
      have HTp := Lib.hid (HT2.out.below hbc HT2.out.lt)
      have q3 : wp.cell? ⟨w.heap.size, 3, none⟩ = some (.int .i64 t.cls) := HTp.out.cell 3
      have zTp : w.heap.size < wp.heap.size := HTp.out.lt
      clear htw hbc q1
      go_wp2_with fail
      go_loopw [8, 9, 52] (fun p q i wr => ∃ j : Nat, i = .int .i64 j ∧ (j : Int) ≤ max nn 0 ∧ Two wr (fun _ => False) w1.heap.size 3 3 p q (l ++ List.replicate j t.cls) ((l ++ [t.atom]) ++ List.replicate j t.cls) ∧ Below w1.heap.size wp wr) (fun _ _ i _ => (nn - (intOf i)).toNat)
      case atStart => exact ⟨0, rfl, by omega, by simpa using HTw.out, Below.refl _ _⟩
      case round =>
        obtain ⟨wq, hwq⟩ : ∃ wq : World, wq = wr := ⟨_, rfl⟩
        subst hwq
        obtain ⟨j, rfl, hj, htw, hbq⟩ := hrel
        have HTq := Lib.hid htw
        have HBq := Lib.hid hbq
        have hTq := HTp.out.below hbq HT1.out.lt
        have q3q : wq.cell? ⟨w.heap.size, 3, none⟩ = some (.int .i64 t.cls) := hTq.cell 3
        have zTq : w.heap.size < wq.heap.size := hTq.lt
        have zwq : w1.heap.size ≤ wq.heap.size := Nat.le_trans HB1x.out (Nat.le_trans HBp.out.size HBq.out.size)
        have zwq2 : ∀ o : Obj, w1.heap.size ≤ (wq.alloc o).heap.size := fun o => Nat.le_trans zwq ((Below.refl wq.heap.size wq).alloc (Nat.le_refl _) o).size
        have ZQ := Lib.hid zwq2
        have hlen1 : (l ++ List.replicate j t.cls).length = l.length + j := by simp
        have hlen2 : ((l ++ [t.atom]) ++ List.replicate j t.cls).length = l.length + 1 + j := by simp; omega
        have hj9 : j ≤ 100000 := by omega
        clear htw hbq hTq q3
        by_cases hlt : (j : Int) < nn
        · have j0 : (0 : Int) ≤ (j : Int) := by omega
          have zT1 : w.heap.size < w1.heap.size := HT1.out.lt
          have HL1q := Lib.hid hlen1
          have HL2q := Lib.hid hlen2
          have HS0 : Hid (TwS w1.heap.size wq.heap.size wq.heap.size 3 3 wq wq.drew _ _ (l ++ List.replicate j t.cls) ((l ++ [t.atom]) ++ List.replicate j t.cls) []) :=
            Lib.hid (TwS.start HTq.out (fun k hk => (HTq.out.1.block k hk).2) (fun k hk => (HTq.out.2.1.block k hk).2) zwq (Nat.le_refl _) (Nat.le_refl _)).drew
          clear hlen1 hlen2 zwq2
          go_upto_region 14 with (fail)
          refine wp_region_noPanic ?_
          refine stage_start (S := (fun w' => w'.cell? ⟨w.heap.size, 3, none⟩ = some (.int .i64 t.cls) ∧ w'.cell? ⟨w.heap.size, 3, none⟩ = some (.int .i64 t.cls))) 1000 (by kernel_rfl) ?hs (fun hHeld => ?bs)
          case hs => ((try dsimp only); go_keep)
          refine st_pure (i := 0) (v := ?vs0) rfl (by kernel_rfl) (by kernel_rfl) (by kernel_rfl) (by kernel_rfl) (fun _ _ _ h => h) (by rfl) ?ys0 (.inl (by assumption)) ?rs0
          case ys0 => (intro w; go_simp; try with_reducible rfl)
          try simp only [Act.put, List.setIfInBounds_toArray, List.set_cons_zero, List.set_cons_succ]
          refine st_pure (i := 1) (v := ?vs1) rfl (by kernel_rfl) (by kernel_rfl) (by kernel_rfl) (by kernel_rfl) (fun _ _ _ h => h) (by rfl) ?ys1 (.inl (by assumption)) ?rs1
          case ys1 => (intro w; go_simp; try with_reducible rfl)
          try simp only [Act.put, List.setIfInBounds_toArray, List.set_cons_zero, List.set_cons_succ]
          refine st_run (i := 2) (v := ?vs2) rfl (by kernel_rfl) (by kernel_rfl) (by kernel_rfl) (by kernel_rfl) (fun _ _ _ h => h) (by rfl) ?ys2 (by assumption) ?rs2
          case ys2 => (intro w hSw; (try dsimp only at hSw); go_simp; try with_reducible rfl)
          try simp only [Act.put, List.setIfInBounds_toArray, List.set_cons_zero, List.set_cons_succ]
          refine st_pure (i := 5) (v := ?vs5) rfl (by kernel_rfl) (by kernel_rfl) (by kernel_rfl) (by kernel_rfl) (fun _ _ _ h => h) (by rfl) ?ys5 (.inl (by assumption)) ?rs5
          case ys5 => (intro w; go_simp; try with_reducible rfl)
          try simp only [Act.put, List.setIfInBounds_toArray, List.set_cons_zero, List.set_cons_succ]
          refine st_pure (i := 6) (v := ?vs6) rfl (by kernel_rfl) (by kernel_rfl) (by kernel_rfl) (by kernel_rfl) (fun _ _ _ h => h) (by rfl) ?ys6 (.inl (by assumption)) ?rs6
          case ys6 => (intro w; go_simp; try with_reducible rfl)
          try simp only [Act.put, List.setIfInBounds_toArray, List.set_cons_zero, List.set_cons_succ]
          refine st_run (i := 7) (v := ?vs7) rfl (by kernel_rfl) (by kernel_rfl) (by kernel_rfl) (by kernel_rfl) (fun _ _ _ h => h) (by rfl) ?ys7 (by assumption) ?rs7
          case ys7 => (intro w hSw; (try dsimp only at hSw); go_simp; try with_reducible rfl)
          try simp only [Act.put, List.setIfInBounds_toArray, List.set_cons_zero, List.set_cons_succ]
          refine st_two (i := 3) (j := 8) rfl rfl (by kernel_rfl) (by rfl) (by rfl) (fun Kq hK => ?onetn3) (fun Kq hK => ?twotn3)
          case onetn3 =>
            have HS1 := Lib.hid (HS0.out.boxed [.int .i64 t.cls] 3 (by simp))
            go_simp
            refine hK.out _ _ ?hta3 (fun hHeld => ?rta3)
            case hta3 => ((try dsimp only); go_keep)
            clear hK Kq
            try simp only [Act.put, List.setIfInBounds_toArray, List.set_cons_zero, List.set_cons_succ]
            refine st_two (i := 4) (j := 8) rfl rfl (by kernel_rfl) (by rfl) (by rfl) (fun Kq hK => ?onetm4) (fun Kq hK => ?twotm4)
            case onetm4 =>
              refine HS1.out.app1 _ _ elemInt rfl rfl t.cls [.int .i64 t.cls] rfl (by simp) (R := fun _ => False) ⟨rfl, H64.out.2.2.2⟩ (fun b hb => hb.elim) (by rw [HL1q.out]; omega) (by rw [HL1q.out]; omega) ?_
              intro v1' w11' hS13 hs13 hf13
              obtain ⟨A11, c11, ev13⟩ := hf13
              rw [HL1q.out] at ev13
              subst ev13
              have HS2 := Lib.hid hS13
              clear hs13
              have q3a : w11'.cell? ⟨w.heap.size, 3, none⟩ = some (.int .i64 t.cls) := (hS13.bel.cell (p := ⟨w.heap.size, 3, none⟩) zT1).trans q3q
              clear hS13
              refine hK.out _ _ ?htb4 (fun hHeld => ?rtb4)
              case htb4 => ((try dsimp only); go_keep)
              clear hK Kq
              try simp only [Act.put, List.setIfInBounds_toArray, List.set_cons_zero, List.set_cons_succ]
              refine st_one (i := 8) rfl (by kernel_rfl) (by rfl) (fun Kq hK => ?_)
              have HS3 := Lib.hid (HS2.out.boxed [.int .i64 t.cls] 3 (by simp))
              go_simp
              refine hK.out _ _ ?htb8 (fun hHeld => ?rtb8)
              case htb8 => ((try dsimp only); go_keep)
              clear hK Kq
              try simp only [Act.put, List.setIfInBounds_toArray, List.set_cons_zero, List.set_cons_succ]
              refine st_one (i := 9) rfl (by kernel_rfl) (by rfl) (fun Kq hK => ?_)
              refine HS3.out.app2 _ _ elemInt rfl rfl t.cls [.int .i64 t.cls] rfl (by simp) (R := fun _ => False) ⟨rfl, H64.out.2.2.2⟩ (fun b hb => hb.elim) (by rw [HL2q.out]; omega) (by rw [HL2q.out]; omega) ?_
              intro v2' w12' hS13 hs13 hf13
              obtain ⟨A12, c12, ev13⟩ := hf13
              rw [HL2q.out] at ev13
              subst ev13
              have HS4 := Lib.hid hS13
              clear hs13
              have q3b : w12'.cell? ⟨w.heap.size, 3, none⟩ = some (.int .i64 t.cls) := (hS13.bel.cell (p := ⟨w.heap.size, 3, none⟩) zT1).trans q3q
              clear hS13
              refine hK.out _ _ ?htb9 (fun hHeld => ?rtb9)
              case htb9 => ((try dsimp only); go_keep)
              clear hK Kq
              try simp only [Act.put, List.setIfInBounds_toArray, List.set_cons_zero, List.set_cons_succ]
              refine st_pure (i := 10) (v := ?vtb10) rfl (by kernel_rfl) (by kernel_rfl) (by kernel_rfl) (by kernel_rfl) (fun _ _ _ h => h) (by rfl) ?ytb10 (.inl (by assumption)) ?rtb10
              case ytb10 => (intro w; go_simp; try with_reducible rfl)
              try simp only [Act.put, List.setIfInBounds_toArray, List.set_cons_zero, List.set_cons_succ]
              refine st_pure (i := 11) (v := ?vtb11) rfl (by kernel_rfl) (by kernel_rfl) (by kernel_rfl) (by kernel_rfl) (fun _ _ _ h => h) (by rfl) ?ytb11 (.inl (by assumption)) ?rtb11
              case ytb11 => (intro w; go_simp; try with_reducible rfl)
              try simp only [Act.put, List.setIfInBounds_toArray, List.set_cons_zero, List.set_cons_succ]
              refine wpAnyD_done (by kernel_rfl) ?_ _
              refine NoPanic.normal ?_
              go_wp2_with fail
              go_roundw
              case rel =>
                have h2 := HS4.out.two
                rw [List.append_assoc, List.append_assoc (l ++ [t.atom]), show List.replicate j t.cls ++ [t.cls] = List.replicate (j + 1) t.cls from (List.replicate_succ').symm] at h2
                have h3 := HBq.out.trans HS4.out.bel
                have h4 : ((j + 1 : Nat) : Int) ≤ max nn 0 := by omega
                exact ⟨j + 1, by go_num, h4, h2, h3⟩
              case measure => simp [intOf]; omega
            case twotm4 =>
              have HS2 := Lib.hid (HS1.out.boxed [.int .i64 t.cls] 3 (by simp))
              go_simp
              refine hK.out _ _ ?htc8 (fun hHeld => ?rtc8)
              case htc8 => ((try dsimp only); go_keep)
              clear hK Kq
              try simp only [Act.put, List.setIfInBounds_toArray, List.set_cons_zero, List.set_cons_succ]
              refine st_one (i := 4) rfl (by kernel_rfl) (by rfl) (fun Kq hK => ?_)
              refine HS2.out.app1 _ _ elemInt rfl rfl t.cls [.int .i64 t.cls] rfl (by simp) (R := fun _ => False) ⟨rfl, H64.out.2.2.2⟩ (fun b hb => hb.elim) (by rw [HL1q.out]; omega) (by rw [HL1q.out]; omega) ?_
              intro v1' w11' hS13 hs13 hf13
              obtain ⟨A11, c11, ev13⟩ := hf13
              rw [HL1q.out] at ev13
              subst ev13
              have HS3 := Lib.hid hS13
              clear hs13
              have q3a : w11'.cell? ⟨w.heap.size, 3, none⟩ = some (.int .i64 t.cls) := (hS13.bel.cell (p := ⟨w.heap.size, 3, none⟩) zT1).trans q3q
              clear hS13
              refine hK.out _ _ ?htc4 (fun hHeld => ?rtc4)
              case htc4 => ((try dsimp only); go_keep)
              clear hK Kq
              try simp only [Act.put, List.setIfInBounds_toArray, List.set_cons_zero, List.set_cons_succ]
              refine st_one (i := 9) rfl (by kernel_rfl) (by rfl) (fun Kq hK => ?_)
              refine HS3.out.app2 _ _ elemInt rfl rfl t.cls [.int .i64 t.cls] rfl (by simp) (R := fun _ => False) ⟨rfl, H64.out.2.2.2⟩ (fun b hb => hb.elim) (by rw [HL2q.out]; omega) (by rw [HL2q.out]; omega) ?_
              intro v2' w12' hS13 hs13 hf13
              obtain ⟨A12, c12, ev13⟩ := hf13
              rw [HL2q.out] at ev13
              subst ev13
              have HS4 := Lib.hid hS13
              clear hs13
              have q3b : w12'.cell? ⟨w.heap.size, 3, none⟩ = some (.int .i64 t.cls) := (hS13.bel.cell (p := ⟨w.heap.size, 3, none⟩) zT1).trans q3q
              clear hS13
              refine hK.out _ _ ?htc9 (fun hHeld => ?rtc9)
              case htc9 => ((try dsimp only); go_keep)
              clear hK Kq
              try simp only [Act.put, List.setIfInBounds_toArray, List.set_cons_zero, List.set_cons_succ]
              refine st_pure (i := 10) (v := ?vtc10) rfl (by kernel_rfl) (by kernel_rfl) (by kernel_rfl) (by kernel_rfl) (fun _ _ _ h => h) (by rfl) ?ytc10 (.inl (by assumption)) ?rtc10
              case ytc10 => (intro w; go_simp; try with_reducible rfl)
              try simp only [Act.put, List.setIfInBounds_toArray, List.set_cons_zero, List.set_cons_succ]
              refine st_pure (i := 11) (v := ?vtc11) rfl (by kernel_rfl) (by kernel_rfl) (by kernel_rfl) (by kernel_rfl) (fun _ _ _ h => h) (by rfl) ?ytc11 (.inl (by assumption)) ?rtc11
              case ytc11 => (intro w; go_simp; try with_reducible rfl)
              try simp only [Act.put, List.setIfInBounds_toArray, List.set_cons_zero, List.set_cons_succ]
              refine wpAnyD_done (by kernel_rfl) ?_ _
              refine NoPanic.normal ?_
              go_wp2_with fail
              go_roundw
              case rel =>
                have h2 := HS4.out.two
                rw [List.append_assoc, List.append_assoc (l ++ [t.atom]), show List.replicate j t.cls ++ [t.cls] = List.replicate (j + 1) t.cls from (List.replicate_succ').symm] at h2
                have h3 := HBq.out.trans HS4.out.bel
                have h4 : ((j + 1 : Nat) : Int) ≤ max nn 0 := by omega
                exact ⟨j + 1, by go_num, h4, h2, h3⟩
              case measure => simp [intOf]; omega
          case twotn3 =>
            have HS1 := Lib.hid (HS0.out.boxed [.int .i64 t.cls] 3 (by simp))
            go_simp
            refine hK.out _ _ ?htd8 (fun hHeld => ?rtd8)
            case htd8 => ((try dsimp only); go_keep)
            clear hK Kq
            try simp only [Act.put, List.setIfInBounds_toArray, List.set_cons_zero, List.set_cons_succ]
            refine st_one (i := 3) rfl (by kernel_rfl) (by rfl) (fun Kq hK => ?_)
            have HS2 := Lib.hid (HS1.out.boxed [.int .i64 t.cls] 3 (by simp))
            go_simp
            refine hK.out _ _ ?htd3 (fun hHeld => ?rtd3)
            case htd3 => ((try dsimp only); go_keep)
            clear hK Kq
            try simp only [Act.put, List.setIfInBounds_toArray, List.set_cons_zero, List.set_cons_succ]
            refine st_one (i := 4) rfl (by kernel_rfl) (by rfl) (fun Kq hK => ?_)
            refine HS2.out.app1 _ _ elemInt rfl rfl t.cls [.int .i64 t.cls] rfl (by simp) (R := fun _ => False) ⟨rfl, H64.out.2.2.2⟩ (fun b hb => hb.elim) (by rw [HL1q.out]; omega) (by rw [HL1q.out]; omega) ?_
            intro v1' w11' hS13 hs13 hf13
            obtain ⟨A11, c11, ev13⟩ := hf13
            rw [HL1q.out] at ev13
            subst ev13
            have HS3 := Lib.hid hS13
            clear hs13
            have q3a : w11'.cell? ⟨w.heap.size, 3, none⟩ = some (.int .i64 t.cls) := (hS13.bel.cell (p := ⟨w.heap.size, 3, none⟩) zT1).trans q3q
            clear hS13
            refine hK.out _ _ ?htd4 (fun hHeld => ?rtd4)
            case htd4 => ((try dsimp only); go_keep)
            clear hK Kq
            try simp only [Act.put, List.setIfInBounds_toArray, List.set_cons_zero, List.set_cons_succ]
            refine st_one (i := 9) rfl (by kernel_rfl) (by rfl) (fun Kq hK => ?_)
            refine HS3.out.app2 _ _ elemInt rfl rfl t.cls [.int .i64 t.cls] rfl (by simp) (R := fun _ => False) ⟨rfl, H64.out.2.2.2⟩ (fun b hb => hb.elim) (by rw [HL2q.out]; omega) (by rw [HL2q.out]; omega) ?_
            intro v2' w12' hS13 hs13 hf13
            obtain ⟨A12, c12, ev13⟩ := hf13
            rw [HL2q.out] at ev13
            subst ev13
            have HS4 := Lib.hid hS13
            clear hs13
            have q3b : w12'.cell? ⟨w.heap.size, 3, none⟩ = some (.int .i64 t.cls) := (hS13.bel.cell (p := ⟨w.heap.size, 3, none⟩) zT1).trans q3q
            clear hS13
            refine hK.out _ _ ?htd9 (fun hHeld => ?rtd9)
            case htd9 => ((try dsimp only); go_keep)
            clear hK Kq
            try simp only [Act.put, List.setIfInBounds_toArray, List.set_cons_zero, List.set_cons_succ]
            refine st_pure (i := 10) (v := ?vtd10) rfl (by kernel_rfl) (by kernel_rfl) (by kernel_rfl) (by kernel_rfl) (fun _ _ _ h => h) (by rfl) ?ytd10 (.inl (by assumption)) ?rtd10
            case ytd10 => (intro w; go_simp; try with_reducible rfl)
            try simp only [Act.put, List.setIfInBounds_toArray, List.set_cons_zero, List.set_cons_succ]
            refine st_pure (i := 11) (v := ?vtd11) rfl (by kernel_rfl) (by kernel_rfl) (by kernel_rfl) (by kernel_rfl) (fun _ _ _ h => h) (by rfl) ?ytd11 (.inl (by assumption)) ?rtd11
            case ytd11 => (intro w; go_simp; try with_reducible rfl)
            try simp only [Act.put, List.setIfInBounds_toArray, List.set_cons_zero, List.set_cons_succ]
            refine wpAnyD_done (by kernel_rfl) ?_ _
            refine NoPanic.normal ?_
            go_wp2_with fail
            go_roundw
            case rel =>
              have h2 := HS4.out.two
              rw [List.append_assoc, List.append_assoc (l ++ [t.atom]), show List.replicate j t.cls ++ [t.cls] = List.replicate (j + 1) t.cls from (List.replicate_succ').symm] at h2
              have h3 := HBq.out.trans HS4.out.bel
              have h4 : ((j + 1 : Nat) : Int) ≤ max nn 0 := by omega
              exact ⟨j + 1, by go_num, h4, h2, h3⟩
            case measure => simp [intOf]; omega
        · have hjn : j = nn.toNat := by omega
          have HJn := Lib.hid hjn
          obtain ⟨es, hes⟩ : ∃ es : List Int, es = l ++ List.replicate j t.cls := ⟨_, rfl⟩
          obtain ⟨ms, hms⟩ : ∃ ms : List Int, ms = (l ++ [t.atom]) ++ List.replicate j t.cls := ⟨_, rfl⟩
          rw [← hes] at hlen1 HTq
          rw [← hms] at hlen2 HTq
          have HEs := Lib.hid hes
          have HMs := Lib.hid hms
          obtain ⟨A8, c8, rfl, q81, q82, _⟩ := HTq.out.1.form
          obtain ⟨A9, c9, rfl, q91, q92, _⟩ := HTq.out.2.1.form
          have HE8 := Lib.hid HTq.out.vl1.els.2.2.2
          have HE9 := Lib.hid HTq.out.vl2.els.2.2.2
          have hes9 : es.length ≤ 1000000 := by omega
          have hms9 : ms.length ≤ 1000000 := by omega
          have HTt := Lib.hid (HTp.out.below HBq.out HT1.out.lt)
          have HAq := Lib.hid ((HA2.out.below HBp.out).belowB HBq.out (fun b hb => Nat.lt_of_lt_of_le (HS.out b hb) HB1.out.size))
          have HZ := Lib.hid (And.intro zwq (And.intro HB1.out.size (And.intro HB1x.out (And.intro HBp.out.size HBq.out.size))))
          have HLn := Lib.hid (And.intro hlen1 hlen2)
          have hge : ¬ (j : Int) < nn := hlt
          have t0 : wq.cell? ⟨w.heap.size, 0, none⟩ = some (.int .i64 t.terms) := HTt.out.cell 0
          have t1 : wq.cell? ⟨w.heap.size, 1, none⟩ = some (.int .i64 t.atom) := HTt.out.cell 1
          have t2 : wq.cell? ⟨w.heap.size, 2, none⟩ = some (.int .i64 t.opn) := HTt.out.cell 2
          have t3 : wq.cell? ⟨w.heap.size, 3, none⟩ = some (.int .i64 t.cls) := HTt.out.cell 3
          have t4 : wq.cell? ⟨w.heap.size, 4, none⟩ = some (.slice A t.levels.length c) := HTt.out.cell 4
          clear hes hms hjn hlen1 hlen2 zwq zwq2 q3q
          go_wp2_with fail
          refine (treeOf_any t A c S HV.out H64.out hlc hc es.length es rfl hes9 A8 c8 0 _ wq (by omega) q81 q82 HAq.out (fun b h => by have := HS.out b h; have := HZ.out; omega) HE8.out (fun b h => h.2)).mono ?_
          rintro e wa ⟨ba, xa, Aa, ca, rfl, hoa, hta, hba⟩
          have HBa := Lib.hid hba
          have HTa := Lib.hid (HTt.out.below hba HTt.out.lt)
          have HAa := Lib.hid (HAq.out.below hba)
          have HEa := Lib.hid (HE9.out.below hba)
          have HTra := Lib.hid hta
          clear hoa hta hba t0 t1 t2 t3 t4 zTq
          obtain ⟨wb, hwb⟩ : ∃ wb : World, wb = wa.alloc (.cells #[.int .i64 xa.rule, .int .i64 xa.term, .slice Aa xa.kids.length ca] 28) := ⟨_, rfl⟩
          have HWb := Lib.hid hwb
          have hbb : Below wa.heap.size wa wb := by rw [hwb]; exact (Below.refl _ _).alloc (Nat.le_refl _) _
          have HBb := Lib.hid (bthen HBa.out hbb HBa.out.size)
          have HTb := Lib.hid (HTa.out.below hbb HTa.out.lt)
          have HAb := Lib.hid (HAa.out.below hbb)
          have HEb := Lib.hid (HEa.out.below hbb)
          have t0 : wb.cell? ⟨w.heap.size, 0, none⟩ = some (.int .i64 t.terms) := HTb.out.cell 0
          have t1 : wb.cell? ⟨w.heap.size, 1, none⟩ = some (.int .i64 t.atom) := HTb.out.cell 1
          have t2 : wb.cell? ⟨w.heap.size, 2, none⟩ = some (.int .i64 t.opn) := HTb.out.cell 2
          have t3 : wb.cell? ⟨w.heap.size, 3, none⟩ = some (.int .i64 t.cls) := HTb.out.cell 3
          have t4 : wb.cell? ⟨w.heap.size, 4, none⟩ = some (.slice A t.levels.length c) := HTb.out.cell 4
          have zTb : w.heap.size < wb.heap.size := HTb.out.lt
          clear hwb hbb
          go_upto_region 17 with (fail)
          rw [← HWb.out]
          go_wp2_with fail
          refine (treeOf_any t A c S HV.out H64.out hlc hc ms.length ms rfl hms9 A9 c9 0 _ wb (by omega) q91 q92 HAb.out (fun b h => by have := HS.out b h; have := HZ.out; have := HBb.out.size; omega) HEb.out (fun b h => by have := h.2; have := HBb.out.size; omega)).mono ?_
          rintro e wd ⟨bb, xb, Ab, cb, rfl, hob, htb, hbd⟩
          have HTrb := Lib.hid htb
          have hbf : Below w.heap.size w wd := bthen (bthen (bthen (bthen HB1.out HB2.out HB1.out.size) HBp.out (by have := HZ.out; omega)) HBq.out HB1.out.size) (bthen HBb.out hbd HBb.out.size) (by have := HZ.out; omega)
          have HBf := Lib.hid hbf
          clear hob htb hbd hbf t0 t1 t2 t3 t4 zTb
          have HEc : Hid (∀ b : Bool, b = (ba || bb) → (b = true ↔ Comp t 0 l)) := Lib.hid (by
            rintro b rfl
            have e1 : l ++ clos t (netW t l) = es := by rw [HEs.out, HJn.out, HNn.out]; rfl
            have e2 : l ++ t.atom :: clos t (netW t l) = ms := by rw [HMs.out, HJn.out, HNn.out]; simp [clos]
            unfold Comp
            rw [e1, e2, Bool.or_eq_true]
            constructor
            · rintro (h | h)
              · exact .inl ⟨xa, HTra.out.1 h⟩
              · exact .inr ⟨xb, HTrb.out.1 h⟩
            · rintro (⟨x, h⟩ | ⟨x, h⟩)
              · cases ba with
                | true => exact .inl rfl
                | false => exact absurd h (HTra.out.2 rfl x)
              · cases bb with
                | true => exact .inr rfl
                | false => exact absurd h (HTrb.out.2 rfl x))
          cases ba with
          | true =>
            go_wp2
            go_ret
            exact ⟨true, rfl, HEc.out true rfl, HBf.out.alloc HBf.out.size _⟩
          | false =>
            go_wp2
            go_ret
            exact ⟨bb, rfl, HEc.out bb rfl, HBf.out.alloc HBf.out.size _⟩
end Go.Proofs.Ytpcjfgikicpioaa
