/- Contract: the reference's ClimbOf. -/
import Derived.Test.YtpcjfgikicpioaaQStarts
import Derived.Test.YtpcjfgikicpioaaQPrecClimbsP
import Derived.Test.YtpcjfgikicpioaaQp1
namespace Go.Proofs.Ytpcjfgikicpioaa
open Go.RowKit
set_option linter.unusedVariables false

def RetCo (t : Table) (l : List Int) (w : World) (e : Ending) (w' : World) : Prop :=
  (∃ (x : Tree) (A : Option Addr) (c : Nat), Lv t 0 x l ∧ e = .returned (.tuple #[.agg #[.int .i64 x.rule, .int .i64 x.term, .slice A x.kids.length c], .int .i64 0, .bool true]) ∧ TrO w' w.heap.size x A c ∧ Below w.heap.size w w') ∨
  (∃ n, Long t l n ∧ e = .returned (.tuple #[.agg #[.int .i64 0, .int .i64 0, .slice none 0 0], .int .i64 (n : Int), .bool false]) ∧ Below w.heap.size w w')

set_option maxRecDepth 100000 in
set_option maxHeartbeats 4000000 in
theorem climbOf_any (t : Table) (A : Option Addr) (c : Nat) (S : Nat → Prop) (hv : Valid t) (h64 : I64 t.terms ∧ I64 t.atom ∧ I64 t.opn ∧ I64 t.cls) (hlc : t.levels.length ≤ c) (hc : c ≤ 9223372036854775807) (l : List Int) (hl9 : l.length ≤ 100) (B : Option Addr) (d : Nat) (S' : Nat → Prop) (w : World) (hld : l.length ≤ d) (hd : d ≤ 9223372036854775807)
    (hA : Els w S t.levels A) (hS : ∀ b, S b → b < w.heap.size) (hB : Els w S' l B) (hS' : ∀ b, S' b → b < w.heap.size) :
    Calls Try.prog 12 #[.agg #[.int .i64 t.terms, .int .i64 t.atom, .int .i64 t.opn, .int .i64 t.cls, .slice A t.levels.length c], .slice B l.length d] w (RetCo t l w) := by
  have HV := Lib.hid hv
  have H64 := Lib.hid h64
  have HS := Lib.hid hS
  have HS' := Lib.hid hS'
  obtain ⟨w1, hw1⟩ : ∃ w1 : World, w1 = (w.alloc (.cells #[.int .i64 t.terms, .int .i64 t.atom, .int .i64 t.opn, .int .i64 t.cls, .slice A t.levels.length c] 24)).alloc (.cells #[.int .i64 0, .int .i64 0, .slice none 0 0] 28) := ⟨_, rfl⟩
  have hb1 : Below w.heap.size w w1 := by rw [hw1]; exact ((Below.refl _ _).alloc (Nat.le_refl _) _).alloc (by simp) _
  have hT1 : Blk' w1 w.heap.size 24 #[.int .i64 t.terms, .int .i64 t.atom, .int .i64 t.opn, .int .i64 t.cls, .slice A t.levels.length c] := by rw [hw1]; exact (Blk'.new w _ _).alloc _
  have hR1 : Blk' w1 (w.heap.size + 1) 28 #[.int .i64 0, .int .i64 0, .slice none 0 0] := by rw [hw1]; exact Blk'.new' _ _ _ (by simp)
  have HW1 := Lib.hid hw1
  have HB1 := Lib.hid hb1
  have HT1 := Lib.hid hT1
  have HR1 := Lib.hid hR1
  have HA1 := Lib.hid (hA.below hb1)
  have HL1 := Lib.hid (hB.below hb1)
  have t0 : w1.cell? ⟨w.heap.size, 0, none⟩ = some (.int .i64 t.terms) := hT1.cell 0
  have t1 : w1.cell? ⟨w.heap.size, 1, none⟩ = some (.int .i64 t.atom) := hT1.cell 1
  have t2 : w1.cell? ⟨w.heap.size, 2, none⟩ = some (.int .i64 t.opn) := hT1.cell 2
  have t3 : w1.cell? ⟨w.heap.size, 3, none⟩ = some (.int .i64 t.cls) := hT1.cell 3
  have t4 : w1.cell? ⟨w.heap.size, 4, none⟩ = some (.slice A t.levels.length c) := hT1.cell 4
  have zT : w.heap.size < w1.heap.size := hT1.lt
  clear hv h64 hS hS' hw1 hb1 hT1 hR1 hA hB
  go_enter Try.func12, Try.ntmps12
  go_upto_region 1 with (fail)
  rw [← HW1.out]
  go_wp2_with fail
  refine (treeOf_any t A c S HV.out H64.out hlc hc l.length l rfl (by omega) B d 0 S' w1 (by omega) hld hd HA1.out (fun b h => Nat.lt_of_lt_of_le (HS.out b h) HB1.out.size) HL1.out (fun b h => Nat.lt_of_lt_of_le (HS'.out b h) HB1.out.size)).mono ?_
  rintro e wa ⟨ba, xa, Aa, ca, rfl, hoa, hta, hba⟩
  have HTra := Lib.hid hta
  have HBa := Lib.hid (bthen HB1.out hba HB1.out.size)
  have HTa := Lib.hid (HT1.out.below hba HT1.out.lt)
  have HRa := Lib.hid (HR1.out.below hba HR1.out.lt)
  have HAa := Lib.hid (HA1.out.below hba)
  have HLa := Lib.hid (HL1.out.below hba)
  have HOa := Lib.hid (hoa.below (Below.refl _ _) (lo' := w.heap.size) (Nat.le_trans HB1.out.size (Nat.le_refl _)))
  have zRa : w.heap.size + 1 < wa.heap.size := HRa.out.lt
  have hzb : w1.heap.size ≤ wa.heap.size := hba.size
  have HOl := Lib.hid hoa
  obtain ⟨wb, hwb⟩ : ∃ wb : World, wb = wa.alloc (.cells #[.int .i64 xa.rule, .int .i64 xa.term, .slice Aa xa.kids.length ca] 28) := ⟨_, rfl⟩
  have HWb := Lib.hid hwb
  have hbb : Below wa.heap.size wa wb := by rw [hwb]; exact (Below.refl _ _).alloc (Nat.le_refl _) _
  have HXb : Hid (Blk' wb wa.heap.size 28 #[.int .i64 xa.rule, .int .i64 xa.term, .slice Aa xa.kids.length ca]) := Lib.hid (by rw [hwb]; exact Blk'.new wa _ _)
  have HBb := Lib.hid (bthen HBa.out hbb HBa.out.size)
  have HTb := Lib.hid (HTa.out.below hbb HTa.out.lt)
  have HRb := Lib.hid (HRa.out.below hbb HRa.out.lt)
  have HAb := Lib.hid (HAa.out.below hbb)
  have HLb := Lib.hid (HLa.out.below hbb)
  have HOb := Lib.hid (HOl.out.below hbb (Nat.le_refl _))
  have hR1s : w.heap.size + 1 < w1.heap.size := HR1.out.lt
  clear hoa hta hba hwb hbb t0 t1 t2 t3 t4 zT HOa HOl
  go_upto_region 2 with (fail)
  rw [← HWb.out]
  have r0 : wb.cell? ⟨w.heap.size + 1, 0, none⟩ = some (.int .i64 0) := HRb.out.cell 0
  have r1 : wb.cell? ⟨w.heap.size + 1, 1, none⟩ = some (.int .i64 0) := HRb.out.cell 1
  have r2 : wb.cell? ⟨w.heap.size + 1, 2, none⟩ = some (.slice none 0 0) := HRb.out.cell 2
  have f0 := HRb.out.frozen 0
  have f1 := HRb.out.frozen 1
  have f2 := HRb.out.frozen 2
  have zR : w.heap.size + 1 < wb.heap.size := HRb.out.lt
  cases ba with
  | true =>
    have x0 : wb.cell? ⟨wa.heap.size, 0, none⟩ = some (.int .i64 xa.rule) := HXb.out.cell 0
    have x1 : wb.cell? ⟨wa.heap.size, 1, none⟩ = some (.int .i64 xa.term) := HXb.out.cell 1
    have x2 : wb.cell? ⟨wa.heap.size, 2, none⟩ = some (.slice Aa xa.kids.length ca) := HXb.out.cell 2
    have zX : wa.heap.size < wb.heap.size := HXb.out.lt
    have ne1 : ¬ w.heap.size + 1 = wa.heap.size := by omega
    go_wp2_with fail
    generalize hwF : World.setCell _ _ _ = wF
    have hRF : Blk' wF (w.heap.size + 1) 28 #[.int .i64 xa.rule, .int .i64 xa.term, .slice Aa xa.kids.length ca] := by rw [← hwF]; exact ((HRb.out.set_ 0 _).set_ 1 _).set_ 2 _
    have hK : Kept (fun b => b = w.heap.size + 1) wb wF := by rw [← hwF]; exact (((Kept.refl (fun b => b = w.heap.size + 1) wb).setCell (p := ⟨w.heap.size + 1, 0, none⟩) (.inl rfl) _).setCell (p := ⟨w.heap.size + 1, 1, none⟩) (.inl rfl) _).setCell (p := ⟨w.heap.size + 1, 2, none⟩) (.inl rfl) _
    have hbF : Below w.heap.size w wF := HBb.out.trans (hK.to_below (fun b (hb : b = w.heap.size + 1) => by omega) HBb.out.size)
    have hOF := HOb.out.kept hK (lo' := w.heap.size) (fun b (hb : b = w.heap.size + 1) => .inl (by omega)) HB1.out.size
    have u0 : wF.cell? ⟨w.heap.size + 1, 0, none⟩ = some (.int .i64 xa.rule) := hRF.cell 0
    have u1 : wF.cell? ⟨w.heap.size + 1, 1, none⟩ = some (.int .i64 xa.term) := hRF.cell 1
    have u2 : wF.cell? ⟨w.heap.size + 1, 2, none⟩ = some (.slice Aa xa.kids.length ca) := hRF.cell 2
    clear hwF
    exact bodyPost_ret (v := .tuple #[.agg #[.int .i64 xa.rule, .int .i64 xa.term, .slice Aa xa.kids.length ca], .int .i64 0, .bool true]) (by simp [results, Try.results12, go_sem, u0, u1, u2]) rfl (.inl ⟨xa, Aa, ca, HTra.out.1 rfl, rfl, hOF, hbF⟩)
  | false =>
    have HNo := Lib.hid (HTra.out.2 rfl)
    clear r0 r1 r2 f0 f1 f2 zR zRa
    go_wp2_with fail
    go_loopw [9] (fun i wr => ∃ n : Nat, n ≤ l.length ∧ i = .int .i64 n ∧ Hid (∀ m, 1 ≤ m → m ≤ n → Comp t 0 (l.take m)) ∧ Below wb.heap.size wb wr) (fun i _ => l.length - (intOf i).toNat)
    case atStart => exact ⟨0, Nat.zero_le _, rfl, Lib.hid (fun m h1 h2 => by omega), Below.refl _ _⟩
    case round =>
      obtain ⟨wn, hwn⟩ : ∃ wn : World, wn = wr := ⟨_, rfl⟩
      subst hwn
      obtain ⟨n, hn, rfl, HAll, hbn⟩ := hrel
      have HBw := Lib.hid hbn
      have HBn := Lib.hid (bthen HBb.out hbn HBb.out.size)
      have HTn := Lib.hid (HTb.out.below hbn HTb.out.lt)
      have HRn := Lib.hid (HRb.out.below hbn HRb.out.lt)
      have HAn := Lib.hid (HAb.out.below hbn)
      have HLn := Lib.hid (HLb.out.below hbn)
      have t0 : wn.cell? ⟨w.heap.size, 0, none⟩ = some (.int .i64 t.terms) := HTn.out.cell 0
      have t1 : wn.cell? ⟨w.heap.size, 1, none⟩ = some (.int .i64 t.atom) := HTn.out.cell 1
      have t2 : wn.cell? ⟨w.heap.size, 2, none⟩ = some (.int .i64 t.opn) := HTn.out.cell 2
      have t3 : wn.cell? ⟨w.heap.size, 3, none⟩ = some (.int .i64 t.cls) := HTn.out.cell 3
      have t4 : wn.cell? ⟨w.heap.size, 4, none⟩ = some (.slice A t.levels.length c) := HTn.out.cell 4
      have zT : w.heap.size < wn.heap.size := HTn.out.lt
      clear hbn
      by_cases hlt : n < l.length
      · obtain ⟨y, hy⟩ := get_some hlt
        obtain ⟨bx, ox, rfl, _, _, _, _⟩ := HLn.out.int hy
        have hlt' : (l.take (n + 1)).length = n + 1 := by rw [List.length_take]; omega
        have HLt := Lib.hid hlt'
        have HNe : Hid (l.take (n + 1) ≠ []) := Lib.hid (fun h => by have h2 := hlt'; rw [h] at h2; simp at h2)
        have d0 : ((n : Int) < (l.length : Int)) := by omega
        have d1 : decide (n < l.length) = true := decide_eq_true hlt
        have hwn1 : IntKind.i64.wrap ((n : Int) + 1) = (n : Int) + 1 := IntWalk.i64_in _ (by omega)
        have e0 : (0 : Int) ≤ (n : Int) + 1 := by omega
        have e1 : (n : Int) + 1 ≤ (d : Int) := by omega
        have hn9 : n + 1 ≤ 100 := by omega
        clear hy hlt'
        go_upto_region 5 with (fail)
        refine wp_region_noPanic ?_
        refine wp_region_held_drew (S := (fun w' => w'.cell? ⟨w.heap.size, 0, none⟩ = some (.int .i64 t.terms) ∧ w'.cell? ⟨w.heap.size, 1, none⟩ = some (.int .i64 t.atom) ∧ w'.cell? ⟨w.heap.size, 2, none⟩ = some (.int .i64 t.opn) ∧ w'.cell? ⟨w.heap.size, 3, none⟩ = some (.int .i64 t.cls) ∧ w'.cell? ⟨w.heap.size, 4, none⟩ = some (.slice A t.levels.length c))) (by kernel_rfl) ?hf (fun hHeld => ?bf)
        case hf => ((try dsimp only); go_keep)
        refine take_run (i := 0) (v := ?vf0) rfl (by kernel_rfl) (by kernel_rfl) (by kernel_rfl) (fun _ _ _ h => h) (by rfl) ?yf0 (by assumption) ?rf0
        case yf0 => (intro w hSw; (try dsimp only at hSw); go_simp; try with_reducible rfl)
        try simp only [Act.put, List.setIfInBounds_toArray, List.set_cons_zero, List.set_cons_succ]
        refine take_run (i := 1) (v := ?vf1) rfl (by kernel_rfl) (by kernel_rfl) (by kernel_rfl) (fun _ _ _ h => h) (by rfl) ?yf1 (by assumption) ?rf1
        case yf1 => (intro w hSw; (try dsimp only at hSw); go_simp; try with_reducible rfl)
        try simp only [Act.put, List.setIfInBounds_toArray, List.set_cons_zero, List.set_cons_succ]
        refine take_run (i := 2) (v := ?vf2) rfl (by kernel_rfl) (by kernel_rfl) (by kernel_rfl) (fun _ _ _ h => h) (by rfl) ?yf2 (by assumption) ?rf2
        case yf2 => (intro w hSw; (try dsimp only at hSw); go_simp; try with_reducible rfl)
        try simp only [Act.put, List.setIfInBounds_toArray, List.set_cons_zero, List.set_cons_succ]
        refine take_run (i := 3) (v := ?vf3) rfl (by kernel_rfl) (by kernel_rfl) (by kernel_rfl) (fun _ _ _ h => h) (by rfl) ?yf3 (by assumption) ?rf3
        case yf3 => (intro w hSw; (try dsimp only at hSw); go_simp; try with_reducible rfl)
        try simp only [Act.put, List.setIfInBounds_toArray, List.set_cons_zero, List.set_cons_succ]
        refine take_run (i := 4) (v := ?vf4) rfl (by kernel_rfl) (by kernel_rfl) (by kernel_rfl) (fun _ _ _ h => h) (by rfl) ?yf4 (by assumption) ?rf4
        case yf4 => (intro w hSw; (try dsimp only at hSw); go_simp; try with_reducible rfl)
        try simp only [Act.put, List.setIfInBounds_toArray, List.set_cons_zero, List.set_cons_succ]
        refine take_run (i := 5) (v := ?vf5) rfl (by kernel_rfl) (by kernel_rfl) (by kernel_rfl) (fun _ _ _ h => h) (by rfl) ?yf5 (by assumption) ?rf5
        case yf5 => (intro w hSw; (try dsimp only at hSw); go_simp; try with_reducible rfl)
        try simp only [Act.put, List.setIfInBounds_toArray, List.set_cons_zero, List.set_cons_succ]
        refine take_run (i := 6) (v := ?vf6) rfl (by kernel_rfl) (by kernel_rfl) (by kernel_rfl) (fun _ _ _ h => h) (by rfl) ?yf6 (by assumption) ?rf6
        case yf6 => (intro w hSw; (try dsimp only at hSw); go_simp; try with_reducible rfl)
        try simp only [Act.put, List.setIfInBounds_toArray, List.set_cons_zero, List.set_cons_succ]
        refine take_run (i := 7) (v := ?vf7) rfl (by kernel_rfl) (by kernel_rfl) (by kernel_rfl) (fun _ _ _ h => h) (by rfl) ?yf7 (by assumption) ?rf7
        case yf7 => (intro w hSw; (try dsimp only at hSw); go_simp; try with_reducible rfl)
        try simp only [Act.put, List.setIfInBounds_toArray, List.set_cons_zero, List.set_cons_succ]
        refine take_run (i := 8) (v := ?vf8) rfl (by kernel_rfl) (by kernel_rfl) (by kernel_rfl) (fun _ _ _ h => h) (by rfl) ?yf8 (by assumption) ?rf8
        case yf8 => (intro w hSw; (try dsimp only at hSw); go_simp; try with_reducible rfl)
        try simp only [Act.put, List.setIfInBounds_toArray, List.set_cons_zero, List.set_cons_succ]
        refine take_run (i := 9) (v := ?vf9) rfl (by kernel_rfl) (by kernel_rfl) (by kernel_rfl) (fun _ _ _ h => h) (by rfl) ?yf9 (by assumption) ?rf9
        case yf9 => (intro w hSw; (try dsimp only at hSw); go_simp; try with_reducible rfl)
        try simp only [Act.put, List.setIfInBounds_toArray, List.set_cons_zero, List.set_cons_succ]
        refine take_call (i := 10) rfl (by kernel_rfl) (by rfl) (fun Kq hK => ?_)
        go_simp
        rw [← HLt.out]
        go_at_call 32
        refine (starts_any t A c S HV.out H64.out hlc hc (l.take (n + 1)) HNe.out (by rw [HLt.out]; omega) (some ⟨bx, ox, none⟩) d S' _ (by rw [HLt.out]; omega) hd (HAn.out.below (Below.refl _ _).drew) (fun b h => by have h1 := HS.out b h; have h2 := HBn.out.size; show b < wn.heap.size; omega) ((HLn.out.takeS (n + 1)).below (Below.refl _ _).drew) (fun b h => by have h1 := HS'.out b h; have h2 := HBn.out.size; show b < wn.heap.size; omega)).mono ?_
        rintro e ws ⟨sb, rfl, hsb, hbs⟩
        have HBs := Lib.hid (bundrew hbs)
        have HSb := Lib.hid hsb
        have n0 := (HBs.out.cell (p := ⟨w.heap.size, 0, none⟩) zT).trans t0
        have n1 := (HBs.out.cell (p := ⟨w.heap.size, 1, none⟩) zT).trans t1
        have n2 := (HBs.out.cell (p := ⟨w.heap.size, 2, none⟩) zT).trans t2
        have n3 := (HBs.out.cell (p := ⟨w.heap.size, 3, none⟩) zT).trans t3
        have n4 := (HBs.out.cell (p := ⟨w.heap.size, 4, none⟩) zT).trans t4
        clear hbs hsb
        refine hK.out _ _ ?hf10 (fun hHeld => ?rf10)
        case hf10 => ((try dsimp only); go_keep)
        clear hK Kq
        try simp only [Act.put, List.setIfInBounds_toArray, List.set_cons_zero, List.set_cons_succ]
        refine take_run (i := 11) (v := ?vf11) rfl (by kernel_rfl) (by kernel_rfl) (by kernel_rfl) (fun _ _ _ h => h) (by rfl) ?yf11 (by assumption) ?rf11
        case yf11 => (intro w hSw; (try dsimp only at hSw); go_simp; try with_reducible rfl)
        try simp only [Act.put, List.setIfInBounds_toArray, List.set_cons_zero, List.set_cons_succ]
        refine wpAnyH_done (by kernel_rfl) ?_ _
        refine NoPanic.normal ?_
        cases sb with
        | true =>
          have HC1 := Lib.hid (HSb.out.1 rfl)
          go_wp2_with fail
          go_roundw
          case rel => exact ⟨n + 1, hlt, by go_num, Lib.hid (fun m h1 h2 => by
            by_cases hm : m ≤ n
            · exact HAll.out m h1 hm
            · obtain rfl : m = n + 1 := by omega
              exact HC1.out), bthen HBw.out HBs.out HBw.out.size⟩
          case measure => simp [intOf]; omega
        | false =>
          have HC1 : Hid (¬ Comp t 0 (l.take (n + 1))) := Lib.hid (fun h => by have := HSb.out.2 h; cases this)
          have HLg : Hid (Long t l n) := Lib.hid ⟨HNo.out, hn, HAll.out, fun _ => HC1.out⟩
          have HRs := Lib.hid (HRn.out.below HBs.out HRn.out.lt)
          have HBf := Lib.hid (bthen HBn.out HBs.out HBn.out.size)
          clear t0 t1 t2 t3 t4 n0 n1 n2 n3 n4 zT
          have r0 : ws.cell? ⟨w.heap.size + 1, 0, none⟩ = some (.int .i64 0) := HRs.out.cell 0
          have r1 : ws.cell? ⟨w.heap.size + 1, 1, none⟩ = some (.int .i64 0) := HRs.out.cell 1
          have r2 : ws.cell? ⟨w.heap.size + 1, 2, none⟩ = some (.slice none 0 0) := HRs.out.cell 2
          have f0 : ws.frozen? ⟨w.heap.size + 1, 0, none⟩ = false := HRs.out.frozen 0
          have f1 : ws.frozen? ⟨w.heap.size + 1, 1, none⟩ = false := HRs.out.frozen 1
          have f2 : ws.frozen? ⟨w.heap.size + 1, 2, none⟩ = false := HRs.out.frozen 2
          have zR : w.heap.size + 1 < ws.heap.size := HRs.out.lt
          go_wp2_with fail
          generalize hwF : World.setCell _ _ _ = wF
          have hRF : Blk' wF (w.heap.size + 1) 28 #[.int .i64 0, .int .i64 0, .slice none 0 0] := by rw [← hwF]; exact ((HRs.out.set_ 0 _).set_ 1 _).set_ 2 _
          have hbF : Below w.heap.size w wF := by rw [← hwF]; exact ((HBf.out.setCell (p := ⟨w.heap.size + 1, 0, none⟩) (Nat.le_succ _) _).setCell (p := ⟨w.heap.size + 1, 1, none⟩) (Nat.le_succ _) _).setCell (p := ⟨w.heap.size + 1, 2, none⟩) (Nat.le_succ _) _
          have u0 : wF.cell? ⟨w.heap.size + 1, 0, none⟩ = some (.int .i64 0) := hRF.cell 0
          have u1 : wF.cell? ⟨w.heap.size + 1, 1, none⟩ = some (.int .i64 0) := hRF.cell 1
          have u2 : wF.cell? ⟨w.heap.size + 1, 2, none⟩ = some (.slice none 0 0) := hRF.cell 2
          clear hwF
          exact bodyPost_ret (v := .tuple #[.agg #[.int .i64 0, .int .i64 0, .slice none 0 0], .int .i64 (n : Int), .bool false]) (by simp [results, Try.results12, go_sem, u0, u1, u2]) rfl (.inr ⟨n, HLg.out, rfl, by first | exact hbF | exact hbF.drew⟩)
      · have HLg : Hid (Long t l n) := Lib.hid ⟨HNo.out, hn, HAll.out, fun h => absurd h hlt⟩
        have d0 : ¬ ((n : Int) < (l.length : Int)) := by omega
        have d1 : decide (n < l.length) = false := decide_eq_false hlt
        go_upto_region 5 with (fail)
        refine wp_region_noPanic ?_
        refine wp_region_held_drew (S := (fun w' => w'.cell? ⟨w.heap.size, 0, none⟩ = some (.int .i64 t.terms) ∧ w'.cell? ⟨w.heap.size, 1, none⟩ = some (.int .i64 t.atom) ∧ w'.cell? ⟨w.heap.size, 2, none⟩ = some (.int .i64 t.opn) ∧ w'.cell? ⟨w.heap.size, 3, none⟩ = some (.int .i64 t.cls) ∧ w'.cell? ⟨w.heap.size, 4, none⟩ = some (.slice A t.levels.length c))) (by kernel_rfl) ?he (fun hHeld => ?be)
        case he => ((try dsimp only); go_keep)
        refine take_run (i := 0) (v := ?ve0) rfl (by kernel_rfl) (by kernel_rfl) (by kernel_rfl) (fun _ _ _ h => h) (by rfl) ?ye0 (by assumption) ?re0
        case ye0 => (intro w hSw; (try dsimp only at hSw); go_simp; try with_reducible rfl)
        try simp only [Act.put, List.setIfInBounds_toArray, List.set_cons_zero, List.set_cons_succ]
        refine take_run (i := 1) (v := ?ve1) rfl (by kernel_rfl) (by kernel_rfl) (by kernel_rfl) (fun _ _ _ h => h) (by rfl) ?ye1 (by assumption) ?re1
        case ye1 => (intro w hSw; (try dsimp only at hSw); go_simp; try with_reducible rfl)
        try simp only [Act.put, List.setIfInBounds_toArray, List.set_cons_zero, List.set_cons_succ]
        refine take_run (i := 2) (v := ?ve2) rfl (by kernel_rfl) (by kernel_rfl) (by kernel_rfl) (fun _ _ _ h => h) (by rfl) ?ye2 (by assumption) ?re2
        case ye2 => (intro w hSw; (try dsimp only at hSw); go_simp; try with_reducible rfl)
        try simp only [Act.put, List.setIfInBounds_toArray, List.set_cons_zero, List.set_cons_succ]
        refine take_run (i := 3) (v := ?ve3) rfl (by kernel_rfl) (by kernel_rfl) (by kernel_rfl) (fun _ _ _ h => h) (by rfl) ?ye3 (by assumption) ?re3
        case ye3 => (intro w hSw; (try dsimp only at hSw); go_simp; try with_reducible rfl)
        try simp only [Act.put, List.setIfInBounds_toArray, List.set_cons_zero, List.set_cons_succ]
        refine take_run (i := 4) (v := ?ve4) rfl (by kernel_rfl) (by kernel_rfl) (by kernel_rfl) (fun _ _ _ h => h) (by rfl) ?ye4 (by assumption) ?re4
        case ye4 => (intro w hSw; (try dsimp only at hSw); go_simp; try with_reducible rfl)
        try simp only [Act.put, List.setIfInBounds_toArray, List.set_cons_zero, List.set_cons_succ]
        refine take_bar (i := 5) rfl (by kernel_rfl) (by kernel_rfl) (by kernel_rfl) (fun _ _ _ h => h) (by rfl) (by assumption) ?_
        try simp only [Act.put, List.setIfInBounds_toArray, List.set_cons_zero, List.set_cons_succ]
        refine take_bar (i := 6) rfl (by kernel_rfl) (by kernel_rfl) (by kernel_rfl) (fun _ _ _ h => h) (by rfl) (by assumption) ?_
        try simp only [Act.put, List.setIfInBounds_toArray, List.set_cons_zero, List.set_cons_succ]
        refine take_bar (i := 7) rfl (by kernel_rfl) (by kernel_rfl) (by kernel_rfl) (fun _ _ _ h => h) (by rfl) (by assumption) ?_
        try simp only [Act.put, List.setIfInBounds_toArray, List.set_cons_zero, List.set_cons_succ]
        refine take_bar (i := 8) rfl (by kernel_rfl) (by kernel_rfl) (by kernel_rfl) (fun _ _ _ h => h) (by rfl) (by assumption) ?_
        try simp only [Act.put, List.setIfInBounds_toArray, List.set_cons_zero, List.set_cons_succ]
        refine take_bar (i := 9) rfl (by kernel_rfl) (by kernel_rfl) (by kernel_rfl) (fun _ _ _ h => h) (by rfl) (by assumption) ?_
        try simp only [Act.put, List.setIfInBounds_toArray, List.set_cons_zero, List.set_cons_succ]
        refine take_bar (i := 10) rfl (by kernel_rfl) (by kernel_rfl) (by kernel_rfl) (fun _ _ _ h => h) (by rfl) (by assumption) ?_
        try simp only [Act.put, List.setIfInBounds_toArray, List.set_cons_zero, List.set_cons_succ]
        refine take_run (i := 11) (v := ?ve11) rfl (by kernel_rfl) (by kernel_rfl) (by kernel_rfl) (fun _ _ _ h => h) (by rfl) ?ye11 (by assumption) ?re11
        case ye11 => (intro w hSw; (try dsimp only at hSw); go_simp; try with_reducible rfl)
        try simp only [Act.put, List.setIfInBounds_toArray, List.set_cons_zero, List.set_cons_succ]
        refine wpAnyH_done (by kernel_rfl) ?_ _
        refine NoPanic.normal ?_
        have HRs := HRn
        have HBf := HBn
        clear t0 t1 t2 t3 t4 zT
        have r0 : wn.cell? ⟨w.heap.size + 1, 0, none⟩ = some (.int .i64 0) := HRs.out.cell 0
        have r1 : wn.cell? ⟨w.heap.size + 1, 1, none⟩ = some (.int .i64 0) := HRs.out.cell 1
        have r2 : wn.cell? ⟨w.heap.size + 1, 2, none⟩ = some (.slice none 0 0) := HRs.out.cell 2
        have f0 : wn.frozen? ⟨w.heap.size + 1, 0, none⟩ = false := HRs.out.frozen 0
        have f1 : wn.frozen? ⟨w.heap.size + 1, 1, none⟩ = false := HRs.out.frozen 1
        have f2 : wn.frozen? ⟨w.heap.size + 1, 2, none⟩ = false := HRs.out.frozen 2
        have zR : w.heap.size + 1 < wn.heap.size := HRs.out.lt
        go_wp2_with fail
        generalize hwF : World.setCell _ _ _ = wF
        have hRF : Blk' wF (w.heap.size + 1) 28 #[.int .i64 0, .int .i64 0, .slice none 0 0] := by rw [← hwF]; exact ((HRs.out.set_ 0 _).set_ 1 _).set_ 2 _
        have hbF : Below w.heap.size w wF := by rw [← hwF]; exact ((HBf.out.setCell (p := ⟨w.heap.size + 1, 0, none⟩) (Nat.le_succ _) _).setCell (p := ⟨w.heap.size + 1, 1, none⟩) (Nat.le_succ _) _).setCell (p := ⟨w.heap.size + 1, 2, none⟩) (Nat.le_succ _) _
        have u0 : wF.cell? ⟨w.heap.size + 1, 0, none⟩ = some (.int .i64 0) := hRF.cell 0
        have u1 : wF.cell? ⟨w.heap.size + 1, 1, none⟩ = some (.int .i64 0) := hRF.cell 1
        have u2 : wF.cell? ⟨w.heap.size + 1, 2, none⟩ = some (.slice none 0 0) := hRF.cell 2
        clear hwF
        exact bodyPost_ret (v := .tuple #[.agg #[.int .i64 0, .int .i64 0, .slice none 0 0], .int .i64 (n : Int), .bool false]) (by simp [results, Try.results12, go_sem, u0, u1, u2]) rfl (.inr ⟨n, HLg.out, rfl, by first | exact hbF | exact hbF.drew⟩)
end Go.Proofs.Ytpcjfgikicpioaa
