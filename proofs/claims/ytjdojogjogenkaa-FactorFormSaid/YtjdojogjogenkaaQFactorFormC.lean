/- The walk of the law FactorForm: no two rules of a nonterminal begin with the same symbol. -/
import Derived.Test.YtjdojogjogenkaaQFactors
import Derived.Test.YtjdojogjogenkaaQGrammar
import Derived.Test.YtjdojogjogenkaaQApartP
import Derived.Test.YtjdojogjogenkaaQp1
import Derived.Deep.QuietTactic
import Derived.BigQuiet
import Derived.Deep.Cut
namespace Go.Proofs.Ytjdojogjogenkaa
open Go.RowKit
set_option linter.unusedVariables false
theorem two_firsts {n : Int} {rs : List Rule} {i j : Nat} {q r : Rule} {x : Sym} (hij : j < i) (hi : rs[i]? = some r) (hj : rs[j]? = some q) (hl : r.left = n) (hl2 : q.left = n) (hr : r.right.head? = some x) (hq : q.right.head? = some x) : ¬ (firstsL n rs).Nodup := by
 intro hn
 have e := List.take_append_drop i rs
 unfold firstsL at hn
 rw [← e, List.filterMap_append, List.nodup_append] at hn
 have h1 : x ∈ (rs.take i).filterMap (fun r => if r.left = n then r.right.head? else none) := List.mem_filterMap.2 ⟨q, List.mem_iff_getElem?.2 ⟨j, by rw [List.getElem?_take_of_lt hij]; exact hj⟩, by rw [if_pos hl2]; exact hq⟩
 have h2 : x ∈ (rs.drop i).filterMap (fun r => if r.left = n then r.right.head? else none) := List.mem_filterMap.2 ⟨r, List.mem_iff_getElem?.2 ⟨0, by rw [List.getElem?_drop]; simpa using hi⟩, by rw [if_pos hl]; exact hr⟩
 exact hn.2.2 x h1 x h2 rfl
set_option maxRecDepth 100000 in
set_option maxHeartbeats 4000000 in
theorem factorForm_any (raw : List Int) (Araw : Option Addr) (craw : Nat) (S0 : Nat → Prop) (w : World) (hraw : raw.length ≤ craw) (mraw : craw ≤ 9223372036854775807) (Eraw : Els w S0 raw Araw) (hS0 : ∀ b, S0 b → b < w.heap.size) :
  Calls Try.prog 3 #[.slice Araw raw.length craw] w fun e w' => e = .returned (.bool true) ∧ Below w.heap.size w w' := by
 have Eraww := Lib.hid Eraw
 have Draw := Lib.hid (And.intro hraw mraw)
 have HS0 := Lib.hid hS0
 have HBw : Hid (Below w.heap.size w w) := Lib.hid (Below.refl _ _)
 clear hS0 Eraw hraw mraw
 go_enter Try.func3, Try.ntmps3
 go_wp2_with fail
 refine (grammar_any Araw craw raw S0 w Draw.out.1 Draw.out.2 Eraww.out (fun b hb => Nat.lt_of_lt_of_le (HS0.out b hb) HBw.out.size)).mono ?_
 rintro e w1 ⟨g, v, hmade, rfl, hvl, hbw1⟩
 obtain ⟨s, rfl, _, _, _, hs⟩ := hvl.gram
 obtain ⟨A, c, rfl, hlc, hc, hA⟩ := hs.slice
 have hck := made_check hmade
 have hvg := validG_of hck
 obtain ⟨t, nn, ss, rs⟩ := g
 dsimp only at *
 obtain ⟨gn, hn⟩ : ∃ n : Nat, nn = (n : Int) := ⟨nn.toNat, by have := hvg.n1; dsimp only at this; omega⟩
 obtain ⟨gm, hm⟩ : ∃ m : Nat, t = (m : Int) := ⟨t.toNat, by have := hvg.t1; dsimp only at this; omega⟩
 obtain ⟨gs, hs0⟩ : ∃ y : Nat, ss = (y : Int) := ⟨ss.toNat, by have := hvg.s0; dsimp only at this; omega⟩
 subst hn; subst hm; subst hs0
 have HMade := Lib.hid hmade
 have C := Lib.hid hck
 have V := Lib.hid hvg
 have Q := Lib.hid (And.intro hlc hc)
 have EX := Lib.hid (hA.keep (S' := fun b => b < w1.heap.size) (fun _ _ _ => rfl) (fun b hb => hb.2))
 have HBw1 := Lib.hid (bthen HBw.out hbw1 HBw.out.size)
 have zww1 : w.heap.size ≤ w1.heap.size := hbw1.size
 have Eraww1 := Lib.hid (Eraww.out.below hbw1)
 clear hbw1 hvl hs hA hmade hck hvg hlc hc
 have EAw1 := EX
 clear EX
 go_wp2_with fail
 refine (facPub_any ⟨(gm : Int), (gn : Int), (gs : Int), rs⟩ gn A c (fun b => b < w1.heap.size) w1 rfl C.out Q.out.1 Q.out.2 EAw1.out (fun b hb => by have h0 : b < w1.heap.size := hb; omega)).mono ?_
 rintro e w4 (⟨k, hbad, rfl, hbw4⟩ | ⟨ss, h, A1, c1, hrun, hch, hno, rfl, q11, q12, hE1, hbw4⟩)
 ·have hk : (k != 0) = true := by simp [hbad.ne]
  have hk2 : (k == 0) = false := by simpa using hbad.ne
  have HBw4 := Lib.hid (bthen HBw1.out hbw4 HBw1.out.size)
  have zw1w4 : w1.heap.size ≤ w4.heap.size := hbw4.size
  have Eraww4 := Lib.hid (Eraww1.out.below hbw4)
  have EAw4 := Lib.hid (EAw1.out.below hbw4)
  clear Eraww1 EAw1
  clear hbad hbw4
  obtain ⟨w5, hww5⟩ : ∃ wq : World, wq = w4.alloc (.cells #[.int .i64 0, .int .i64 0, .int .i64 0, .slice none 0 0] 25) := ⟨_, rfl⟩
  have HWw5 := Lib.hid hww5
  have hbw5 : Below w4.heap.size w4 w5 := by rw [hww5]; exact (Below.refl _ _).alloc (Nat.le_refl _) _
  have HPw5 : Hid (Blk' w5 w4.heap.size 25 #[.int .i64 0, .int .i64 0, .int .i64 0, .slice none 0 0]) := Lib.hid (by rw [hww5]; exact Blk'.new _ _ _)
  have Zw5 : Hid (w5.heap.size = w4.heap.size + 1) := Lib.hid (by rw [hww5]; simp)
  have HBw5 := Lib.hid (bthen HBw4.out hbw5 HBw4.out.size)
  have zw4w5 : w4.heap.size ≤ w5.heap.size := hbw5.size
  have Eraww5 := Lib.hid (Eraww4.out.below hbw5)
  have EAw5 := Lib.hid (EAw4.out.below hbw5)
  clear Eraww4 EAw4
  clear hww5 hbw5
  go_upto_region 2 with (fail)
  rw [← HWw5.out]
  go_wp2_with fail
  refine (factors_any _).mono ?_
  rintro e w6 ⟨rfl, hbw6⟩
  have HBw6 := Lib.hid (bthen HBw5.out hbw6 HBw5.out.size)
  have zw5w6 : w5.heap.size ≤ w6.heap.size := hbw6.size
  have HPw6 := Lib.hid (HPw5.out.below hbw6 HPw5.out.lt)
  have Eraww6 := Lib.hid (Eraww5.out.below hbw6)
  have EAw6 := Lib.hid (EAw5.out.below hbw6)
  clear HPw5 Eraww5 EAw5
  clear hbw6
  have cP0w6 : w6.cell? ⟨w4.heap.size, 0, none⟩ = some (.int .i64 0) := HPw6.out.cell 0
  have cP1w6 : w6.cell? ⟨w4.heap.size, 1, none⟩ = some (.int .i64 0) := HPw6.out.cell 1
  have cP2w6 : w6.cell? ⟨w4.heap.size, 2, none⟩ = some (.int .i64 0) := HPw6.out.cell 2
  have cP3w6 : w6.cell? ⟨w4.heap.size, 3, none⟩ = some (.slice none 0 0) := HPw6.out.cell 3
  have czPw6 : w4.heap.size < w6.heap.size := HPw6.out.lt
  go_wp2_with fail
  go_loopw [20] (fun i wr => i = .int .i64 0 ∧ wr = w6) (fun _ _ => 0)
  case atStart => exact ⟨rfl, rfl⟩
  case round =>
   obtain ⟨rfl, rfl⟩ := hrel
   go_wp2
   go_ret
   exact ⟨rfl, HBw6.out⟩
 ·have HNo := Lib.hid hno
  have HVh := Lib.hid (validG_of hch)
  have QH := Lib.hid (And.intro q11 q12)
  have EHx := Lib.hid (hE1.keep (S' := fun b => b < w4.heap.size) (fun _ _ _ => rfl) (fun b hb => hb.2))
  obtain ⟨ht, hn_, hs_, hrs⟩ := h
  dsimp only at *
  have HBw4 := Lib.hid (bthen HBw1.out hbw4 HBw1.out.size)
  have zw1w4 : w1.heap.size ≤ w4.heap.size := hbw4.size
  have Eraww4 := Lib.hid (Eraww1.out.below hbw4)
  have EAw4 := Lib.hid (EAw1.out.below hbw4)
  clear Eraww1 EAw1
  clear hbw4 hrun hch hno q11 q12 hE1
  have EHw4 := EHx
  clear EHx
  obtain ⟨w5, hww5⟩ : ∃ wq : World, wq = w4.alloc (.cells #[.int .i64 ht, .int .i64 hn_, .int .i64 hs_, .slice A1 hrs.length c1] 25) := ⟨_, rfl⟩
  have HWw5 := Lib.hid hww5
  have hbw5 : Below w4.heap.size w4 w5 := by rw [hww5]; exact (Below.refl _ _).alloc (Nat.le_refl _) _
  have HPw5 : Hid (Blk' w5 w4.heap.size 25 #[.int .i64 ht, .int .i64 hn_, .int .i64 hs_, .slice A1 hrs.length c1]) := Lib.hid (by rw [hww5]; exact Blk'.new _ _ _)
  have Zw5 : Hid (w5.heap.size = w4.heap.size + 1) := Lib.hid (by rw [hww5]; simp)
  have HBw5 := Lib.hid (bthen HBw4.out hbw5 HBw4.out.size)
  have zw4w5 : w4.heap.size ≤ w5.heap.size := hbw5.size
  have Eraww5 := Lib.hid (Eraww4.out.below hbw5)
  have EAw5 := Lib.hid (EAw4.out.below hbw5)
  have EHw5 := Lib.hid (EHw4.out.below hbw5)
  clear Eraww4 EAw4 EHw4
  clear hww5 hbw5
  go_upto_region 2 with (fail)
  rw [← HWw5.out]
  go_wp2_with fail
  refine (factors_any _).mono ?_
  rintro e w6 ⟨rfl, hbw6⟩
  have HBw6 := Lib.hid (bthen HBw5.out hbw6 HBw5.out.size)
  have zw5w6 : w5.heap.size ≤ w6.heap.size := hbw6.size
  have HPw6 := Lib.hid (HPw5.out.below hbw6 HPw5.out.lt)
  have Eraww6 := Lib.hid (Eraww5.out.below hbw6)
  have EAw6 := Lib.hid (EAw5.out.below hbw6)
  have EHw6 := Lib.hid (EHw5.out.below hbw6)
  clear HPw5 Eraww5 EAw5 EHw5
  clear hbw6
  have hrl : hrs.length ≤ 32 := HVh.out.len
  have HQ32 := Lib.hid (And.intro QH.out.1 QH.out.2)
  have hcq : hrs.length ≤ c1 := QH.out.1
  have cP0w6 : w6.cell? ⟨w4.heap.size, 0, none⟩ = some (.int .i64 ht) := HPw6.out.cell 0
  have cP1w6 : w6.cell? ⟨w4.heap.size, 1, none⟩ = some (.int .i64 hn_) := HPw6.out.cell 1
  have cP2w6 : w6.cell? ⟨w4.heap.size, 2, none⟩ = some (.int .i64 hs_) := HPw6.out.cell 2
  have cP3w6 : w6.cell? ⟨w4.heap.size, 3, none⟩ = some (.slice A1 hrs.length c1) := HPw6.out.cell 3
  have czPw6 : w4.heap.size < w6.heap.size := HPw6.out.lt
  go_wp2_with fail
  clear cP0w6 cP1w6 cP2w6 cP3w6 czPw6
  go_loopw [20] (fun i wr => ∃ k : Nat, k ≤ hrs.length ∧ i = .int .i64 (k : Int) ∧ Below w6.heap.size w6 wr) (fun i _ => hrs.length - (intOf i).toNat)
  case atStart => exact ⟨0, Nat.zero_le _, rfl, Below.refl _ _⟩
  case round =>
   obtain ⟨wo, hwo⟩ : ∃ wo : World, wo = wr := ⟨_, rfl⟩
   subst hwo
   obtain ⟨i, hi, rfl, hb⟩ := hrel
   have HBo := Lib.hid hb
   have HPo := Lib.hid (HPw6.out.below hb HPw6.out.lt)
   have EHo := Lib.hid (EHw6.out.below hb)
   have HBwo := Lib.hid (bthen HBw6.out hb HBw6.out.size)
   clear hb
   have zPo := HPo.out.lt
   have p3 : wo.cell? ⟨w4.heap.size, 3, none⟩ = some (.slice A1 hrs.length c1) := HPo.out.cell 3
   by_cases hil : i < hrs.length
   ·have hil' : (i : Int) < (hrs.length : Int) := by omega
    have hi0 : (0 : Int) ≤ (i : Int) := by omega
    have hic : (i : Int) ≤ (c1 : Int) := by omega
    obtain ⟨r, hr⟩ := get_some hil
    obtain ⟨br, orr, Ar, cr, rfl, _, hbr, _, _, _, hEr, hr0, hr1⟩ := EHo.out.rule hr
    obtain ⟨rl, rr⟩ := r
    dsimp only at *
    obtain ⟨w7, hw7⟩ : ∃ q : World, q = wo.alloc (.cells #[.int .i64 rl, .slice Ar rr.length cr] 33) := ⟨_, rfl⟩
    have HW7 := Lib.hid hw7
    have hb7 : Below wo.heap.size wo w7 := by rw [hw7]; exact (Below.refl _ _).alloc (Nat.le_refl _) _
    have HR7 : Hid (Blk' w7 wo.heap.size 33 #[.int .i64 rl, .slice Ar rr.length cr]) := Lib.hid (by rw [hw7]; exact Blk'.new _ _ _)
    have HP7 := Lib.hid (HPo.out.below hb7 HPo.out.lt)
    have EH7 := Lib.hid (EHo.out.below hb7)
    have ER7 := Lib.hid (hEr.below hb7)
    have HB7 := Lib.hid (bthen HBo.out hb7 HBo.out.size)
    have HRr := Lib.hid hr
    have zz7 : wo.heap.size < w7.heap.size := HR7.out.lt
    clear hw7 hb7 hEr hr
    go_upto_region 7 with (fail)
    rw [← HW7.out]
    clear hr0 hr1 hbr p3 HW7
    have p3 : w7.cell? ⟨w4.heap.size, 3, none⟩ = some (.slice (some ⟨br, orr, none⟩) hrs.length c1) := HP7.out.cell 3
    have zP7 := HP7.out.lt
    go_wp2_with fail
    clear p3
    go_loopw [30] (fun v wr => ∃ k : Nat, k ≤ i ∧ v = .int .i64 (k : Int) ∧ Below w7.heap.size w7 wr) (fun v _ => i - (intOf v).toNat)
    case atStart => exact ⟨0, Nat.zero_le _, rfl, Below.refl _ _⟩
    case round =>
     obtain ⟨wi, hwi⟩ : ∃ wi : World, wi = wr := ⟨_, rfl⟩
     subst hwi
     obtain ⟨j, hj, rfl, hb⟩ := hrel
     have HBi := Lib.hid hb
     have HRi := Lib.hid (HR7.out.below hb HR7.out.lt)
     have EHi := Lib.hid (EH7.out.below hb)
     have ERi := Lib.hid (ER7.out.below hb)
     have zzi : w7.heap.size ≤ wi.heap.size := hb.size
     clear hb
     by_cases hjl : j < i
     ·have hjl' : (j : Int) < (i : Int) := by omega
      have hj0 : (0 : Int) ≤ (j : Int) := by omega
      obtain ⟨q, hq⟩ := get_some (show j < hrs.length by omega)
      obtain ⟨_, _, Aq, cq, e2, _, hbq, _, _, _, hEq, hq0, hq1⟩ := EHi.out.rule hq
      injection e2 with e2
      injection e2 with e3 e4 _
      subst e3; subst e4
      obtain ⟨ql, qr⟩ := q
      dsimp only at *
      obtain ⟨w8, hw8⟩ : ∃ q : World, q = wi.alloc (.cells #[.int .i64 ql, .slice Aq qr.length cq] 33) := ⟨_, rfl⟩
      have HW8 := Lib.hid hw8
      have hb8 : Below wi.heap.size wi w8 := by rw [hw8]; exact (Below.refl _ _).alloc (Nat.le_refl _) _
      have HQ8 : Hid (Blk' w8 wi.heap.size 33 #[.int .i64 ql, .slice Aq qr.length cq]) := Lib.hid (by rw [hw8]; exact Blk'.new _ _ _)
      have HR8 := Lib.hid (HRi.out.below hb8 HRi.out.lt)
      have ER8 := Lib.hid (ERi.out.below hb8)
      have EQ8 := Lib.hid (hEq.below hb8)
      have HB8 := Lib.hid (bthen HBi.out hb8 HBi.out.size)
      have HQq := Lib.hid hq
      clear hw8 hb8 hEq hq
      go_upto_region 10 with (fail)
      rw [← HW8.out]
      clear hq0 hq1 hbq HW8
      have r0 : w8.cell? ⟨wo.heap.size, 0, none⟩ = some (.int .i64 rl) := HR8.out.cell 0
      have r1 : w8.cell? ⟨wo.heap.size, 1, none⟩ = some (.slice Ar rr.length cr) := HR8.out.cell 1
      have s0 : w8.cell? ⟨wi.heap.size, 0, none⟩ = some (.int .i64 ql) := HQ8.out.cell 0
      have s1 : w8.cell? ⟨wi.heap.size, 1, none⟩ = some (.slice Aq qr.length cq) := HQ8.out.cell 1
      have zr8 := HR8.out.lt
      have zq8 := HQ8.out.lt
      by_cases hl : rl = ql
      ·subst hl
       have d1 : (rl == rl) = true := by simp
       cases rr with
       | nil =>
        go_wp2_with fail
        go_quiet (fail)
        go_wp2
        go_roundw
        case rel =>
         first
         | exact ⟨j + 1, by omega, by go_num, bdrewN HB8.out⟩
         | (repeat (apply Exists.intro)
            refine And.intro ?_ ?_
            rotate_left
            ·repeat (first | exact rfl | refine ⟨rfl, ?_⟩)
            ·exact ⟨j + 1, by omega, by go_num, bdrewN HB8.out⟩)
        case measure => simp [intOf]; omega
       | cons x xs =>
        obtain ⟨bx, ox, rfl, _, hbx, _, x0, x1⟩ := ER8.out.sym (k := 0) (x := x) rfl
        have x0 : w8.cell? ⟨bx, ox, none⟩ = some (.bool x.term) := by simpa using x0
        have x1 : w8.cell? ⟨bx, ox + 1, none⟩ = some (.int .i64 x.n) := by simpa using x1
        have hpx : (0 : Int) < ((xs.length : Int) + 1) := by omega
        cases qr with
        | nil =>
         go_wp2_with fail
         go_quiet (fail)
         go_wp2
         go_roundw
         case rel =>
          first
          | exact ⟨j + 1, by omega, by go_num, bdrewN HB8.out⟩
          | (repeat (apply Exists.intro)
             refine And.intro ?_ ?_
             rotate_left
             ·repeat (first | exact rfl | refine ⟨rfl, ?_⟩)
             ·exact ⟨j + 1, by omega, by go_num, bdrewN HB8.out⟩)
         case measure => simp [intOf]; omega
        | cons y ys =>
         obtain ⟨by_, oy, rfl, _, hby, _, y0, y1⟩ := EQ8.out.sym (k := 0) (x := y) rfl
         have y0 : w8.cell? ⟨by_, oy, none⟩ = some (.bool y.term) := by simpa using y0
         have y1 : w8.cell? ⟨by_, oy + 1, none⟩ = some (.int .i64 y.n) := by simpa using y1
         have hpy : (0 : Int) < ((ys.length : Int) + 1) := by omega
         have hxy : x ≠ y := fun e => two_firsts hjl HRr.out HQq.out rfl rfl rfl (by rw [e]; rfl) (by
          have h1 := (HVh.out.rules _ (List.mem_of_getElem? HRr.out))
          have h2 := HNo.out rl.toNat (by (try dsimp only at h1 ⊢); omega)
          rw [Int.toNat_of_nonneg h1.1] at h2
          exact h2)
         obtain ⟨xt, xn⟩ := x
         obtain ⟨yt, yn⟩ := y
         dsimp only at *
         by_cases hxt : xt = yt
         ·subst hxt
          have d2 : (xn == yn) = false := by
           simp only [beq_eq_false_iff_ne, ne_eq]
           intro e
           exact hxy (by rw [e])
          clear hxy
          go_wp2_with fail
          go_quiet (fail)
          go_wp2
          go_roundw
          case rel =>
           first
           | exact ⟨j + 1, by omega, by go_num, bdrewN HB8.out⟩
           | (repeat (apply Exists.intro)
              refine And.intro ?_ ?_
              rotate_left
              ·repeat (first | exact rfl | refine ⟨rfl, ?_⟩)
              ·exact ⟨j + 1, by omega, by go_num, bdrewN HB8.out⟩)
          case measure => simp [intOf]; omega
         ·have d2 : (xt == yt) = false := by simpa using hxt
          clear hxy hxt
          go_wp2_with fail
          go_quiet (fail)
          go_wp2
          go_roundw
          case rel =>
           first
           | exact ⟨j + 1, by omega, by go_num, bdrewN HB8.out⟩
           | (repeat (apply Exists.intro)
              refine And.intro ?_ ?_
              rotate_left
              ·repeat (first | exact rfl | refine ⟨rfl, ?_⟩)
              ·exact ⟨j + 1, by omega, by go_num, bdrewN HB8.out⟩)
          case measure => simp [intOf]; omega
      ·have d1 : (rl == ql) = false := by simpa using hl
       clear hl
       go_wp2_with fail
       go_quiet (fail)
       go_wp2
       go_roundw
       case rel =>
        first
        | exact ⟨j + 1, by omega, by go_num, bdrewN HB8.out⟩
        | (repeat (apply Exists.intro)
           refine And.intro ?_ ?_
           rotate_left
           ·repeat (first | exact rfl | refine ⟨rfl, ?_⟩)
           ·exact ⟨j + 1, by omega, by go_num, bdrewN HB8.out⟩)
       case measure => simp [intOf]; omega
     ·have hje : j = i := by omega
      have HB9 := Lib.hid (bthen HB7.out HBi.out HB7.out.size)
      go_wp2
      go_roundw
      case rel => exact ⟨i + 1, by omega, by go_num, HB9.out⟩
      case measure => simp [intOf]; omega
   ·go_wp2
    go_ret
    exact ⟨rfl, HBwo.out⟩
theorem factorForm_row (raw : List Int) (v0 : Value) (W : World) (h0 : Vl W (OldS W) raw v0) :
  Calls Try.prog 3 #[v0] W fun e W' => e = .returned (.bool true) ∧ Below W.heap.size W W' := by
 obtain ⟨A0, c0, rfl, p0, q0, e0⟩ := h0.slice
 exact factorForm_any raw A0 c0 (OldS W) W p0 q0 e0 (fun b h => h)
end Go.Proofs.Ytjdojogjogenkaa
