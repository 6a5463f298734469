/- Contract: factor.group: the rules of the next step of factoring. -/
import Derived.Test.YtjdojogjogenkaaQw1
import Derived.Deep.QuietTactic
import Derived.BigQuiet
import Derived.Deep.Cut
namespace Go.Proofs.Ytjdojogjogenkaa
open Go.RowKit Go.Sort
set_option linter.unusedVariables false
theorem hasF_false {n : Int} {x : Sym} {r : Rule} (h : r.left ≠ n ∨ r.right = [] ∨ r.right.head? ≠ some x) : hasF n x r = false := by
 unfold hasF
 rcases h with h | h | h
 ·simp [h]
 ·simp [h]
 ·simp [h]
set_option maxRecDepth 100000 in
set_option maxHeartbeats 4000000 in
theorem group_any (g : Gram) (n : Nat) (A : Option Addr) (c : Nat) (S : Nat → Prop) (w : World) (hgn : g.nons = (n : Int)) (hn : n ≤ 1000) (hrl : g.rules.length ≤ 1000) (hrr : ∀ q ∈ g.rules, q.right.length ≤ 1000) (hlc : g.rules.length ≤ c) (hc : c ≤ 9223372036854775807) (hA : Els w S g.rules A) :
  Calls Try.prog 41 #[.agg #[.int .i64 g.terms, .int .i64 g.nons, .int .i64 g.start, .slice A g.rules.length c]] w fun e w' => ∃ v l, e = .returned v ∧ GrpIs g n l ∧ Own w' (fun _ => False) w.heap.size 3 v l ∧ (l = [] → v = .slice none 0 0) ∧ Below w.heap.size w w' := by
 obtain ⟨gt, gn, gs, rs⟩ := g
 dsimp only at *
 subst hgn
 obtain ⟨w0, hw0⟩ : ∃ w0 : World, w0 = w.alloc (.cells #[.int .i64 gt, .int .i64 (n : Int), .int .i64 gs, .slice A rs.length c] 25) := ⟨_, rfl⟩
 have HW0 := Lib.hid hw0
 have HB0 : Hid (Below w.heap.size w w0) := Lib.hid (by rw [hw0]; exact (Below.refl _ _).alloc (Nat.le_refl _) _)
 have HG0 : Hid (Blk' w0 w.heap.size 25 #[.int .i64 gt, .int .i64 (n : Int), .int .i64 gs, .slice A rs.length c]) := Lib.hid (by rw [hw0]; exact Blk'.new _ _ _)
 have HA := Lib.hid (hA.below HB0.out)
 have HRR := Lib.hid hrr
 clear hw0 hA hrr hlc
 go_enter Try.func41, Try.ntmps41
 go_upto_region 1 with (fail)
 rw [← HW0.out]
 have g1 : w0.cell? ⟨w.heap.size, 1, none⟩ = some (.int .i64 (n : Int)) := HG0.out.cell 1
 have zg : w.heap.size < w0.heap.size := HG0.out.lt
 go_wp2_with fail
 clear g1 zg
 go_loopw [13] (fun i wr => ∃ k : Nat, k ≤ n ∧ i = .int .i64 (k : Int) ∧ (∀ m : Nat, m < k → (firstsL (m : Int) rs).Nodup) ∧ Below w0.heap.size w0 wr) (fun i _ => n - (intOf i).toNat)
 case atStart => exact ⟨0, Nat.zero_le _, rfl, fun m hm => by omega, Below.refl _ _⟩
 case round =>
  obtain ⟨wo, hwo⟩ : ∃ wo : World, wo = wr := ⟨_, rfl⟩
  subst hwo
  obtain ⟨k, hk, rfl, hnd, hb⟩ := hrel
  have HND := Lib.hid hnd
  have HBo := Lib.hid hb
  have HGo := Lib.hid (HG0.out.below hb HG0.out.lt)
  have HAo := Lib.hid (HA.out.below hb)
  have HBwo := Lib.hid (bthen HB0.out hb HB0.out.size)
  clear hnd hb
  by_cases hkn : k < n
  ·have hkn' : (k : Int) < (n : Int) := by omega
   have g3 : wo.cell? ⟨w.heap.size, 3, none⟩ = some (.slice A rs.length c) := HGo.out.cell 3
   have zg : w.heap.size < wo.heap.size := HGo.out.lt
   go_wp2_with fail
   clear g3
   go_loopw [4, 19] (fun v i wr => ∃ (j : Nat) (out : List Sym), j ≤ rs.length ∧ i = .int .i64 (j : Int) ∧ Hid (out = firstsL (k : Int) (rs.take j)) ∧ Own wr (fun _ => False) wo.heap.size 35 v out ∧ (∀ x ∈ out, I64 x.n) ∧ Below wo.heap.size wo wr) (fun _ i _ => rs.length - (intOf i).toNat)
   case atStart => exact ⟨0, [], Nat.zero_le _, rfl, Lib.hid rfl, Own.nil _ _ _ _, by simp, Below.refl _ _⟩
   case round =>
    obtain ⟨wj, hwj⟩ : ∃ wj : World, wj = wr := ⟨_, rfl⟩
    subst hwj
    obtain ⟨j, out, hj, rfl, HO, hown, hio, hb⟩ := hrel
    obtain ⟨Av, cv, rfl, _⟩ := hown.form
    have HOw := Lib.hid hown
    have HIo := Lib.hid hio
    have HBj := Lib.hid hb
    have HAj := Lib.hid (HAo.out.below hb)
    clear hown hio hb
    by_cases hlt : j < rs.length
    ·have hlt' : (j : Int) < (rs.length : Int) := by omega
     have hj0 : (0 : Int) ≤ (j : Int) := by omega
     obtain ⟨r, hr⟩ := get_some hlt
     obtain ⟨b, o, Ar, cr, rfl, _, hbs, hi, hrc, hcr, hEr, hc0, hc1⟩ := HAj.out.rule hr
     have HT := Lib.hid (take_snoc hr)
     have HRq := Lib.hid (HRR.out r (List.mem_of_getElem? hr))
     obtain ⟨l, rr⟩ := r
     dsimp only at *
     have HEr := Lib.hid hEr
     clear hr hEr
     by_cases hl : l = (k : Int)
     ·subst hl
      cases rr with
      | nil =>
       have HO2 : Hid (out = firstsL (k : Int) (rs.take (j + 1))) := Lib.hid (by rw [HT.out, firstsL_snoc_miss (.inr rfl)]; exact HO.out)
       go_wp2
       go_roundw
       case rel => exact ⟨j + 1, out, hlt, by go_num, HO2, HOw.out.alloc _, HIo.out, HBj.out.alloc HBj.out.size _⟩
       case measure => simp [intOf]; omega
      | cons x ss =>
       obtain ⟨b2, o2, rfl, _, hb2, hi2, hs0, hs1⟩ := HEr.out.sym (k := 0) (x := x) rfl
       have hs0' : wj.cell? ⟨b2, o2, none⟩ = some (.bool x.term) := by simpa using hs0
       have hs1' : wj.cell? ⟨b2, o2 + 1, none⟩ = some (.int .i64 x.n) := by simpa using hs1
       have hpos : (0 : Int) < ((ss.length : Int) + 1) := by omega
       have HO2 : Hid (out ++ [x] = firstsL (k : Int) (rs.take (j + 1))) := Lib.hid (by rw [HT.out, firstsL_snoc_hit (n := (k : Int)) (r := ⟨(k : Int), x :: ss⟩) (x := x) (ss := ss) rfl rfl, HO.out])
       have HIx := Lib.hid hi2
       have hol : out.length ≤ 1000 := by
        have h1 := firstsL_len (k : Int) (rs.take j)
        rw [← HO.out, List.length_take] at h1
        omega
       have hcap1 : (out.length + 1) * 16 ≤ 140737488355328 := by omega
       have hcap2 : out.length + 1 ≤ 9223372036854775807 := by omega
       have HCp := Lib.hid (And.intro hcap1 hcap2)
       have HIn : Hid (∀ y ∈ out ++ [x], I64 y.n) := Lib.hid (fun y hy => by
        rcases List.mem_append.1 hy with h | h
        ·exact HIo.out y h
        ·simp at h; subst h; exact HIx.out)
       obtain ⟨xt, xn⟩ := x
       dsimp only at *
       obtain ⟨wr1, hw1⟩ : ∃ q : World, q = wj.alloc (.cells #[.int .i64 (k : Int), .slice (some ⟨b2, o2, none⟩) (ss.length + 1) cr] 33) := ⟨_, rfl⟩
       have HW1 := Lib.hid hw1
       have HB1 : Hid (Below wo.heap.size wo wr1) := Lib.hid (by rw [hw1]; exact HBj.out.alloc HBj.out.size _)
       have HO1 : Hid (Own wr1 (fun _ => False) wo.heap.size 35 (.slice Av out.length cv) out) := Lib.hid (by rw [hw1]; exact HOw.out.alloc _)
       have HQ1 : Hid (Blk' wr1 wj.heap.size 33 #[.int .i64 (k : Int), .slice (some ⟨b2, o2, none⟩) (ss.length + 1) cr]) := Lib.hid (by rw [hw1]; exact Blk'.new _ _ _)
       have hs0 : wr1.cell? ⟨b2, o2, none⟩ = some (.bool xt) := by rw [hw1, World.cell?_alloc_lt _ _ _ hb2]; exact hs0'
       have hs1 : wr1.cell? ⟨b2, o2 + 1, none⟩ = some (.int .i64 xn) := by rw [hw1, World.cell?_alloc_lt _ _ _ hb2]; exact hs1'
       have hb21 : b2 < wr1.heap.size := by rw [hw1]; simp; omega
       have q1 : wr1.cell? ⟨wj.heap.size, 1, none⟩ = some (.slice (some ⟨b2, o2, none⟩) (ss.length + 1) cr) := HQ1.out.cell 1
       have zq := HQ1.out.lt
       have HRg : Hid (Dat.rd (wr1.alloc (.cells #[.bool xt, .int .i64 xn] 35)) (OwnT (fun _ => False) wo.heap.size (.slice Av out.length cv) (wr1.alloc (.cells #[.bool xt, .int .i64 xn] 35))) (⟨xt, xn⟩ : Sym) [.bool xt, .int .i64 xn]) := Lib.hid ⟨rfl, HIx.out⟩
       have hz1 : wo.heap.size ≤ (wr1.alloc (.cells #[.bool xt, .int .i64 xn] 35)).heap.size := by have := HB1.out.size; simp; omega
       have HCz := Lib.hid hz1
       clear hs0' hs1' hol hcap1 hcap2 hw1 hz1
       go_upto_region 9 with (fail)
       rw [← HW1.out]
       go_wp2_with (at_builtin; (refine wpList_own1 _ rfl _ _ elemSym rfl rfl (HO1.out.alloc (.cells #[.bool xt, .int .i64 xn] 35)) ⟨xt, xn⟩ [.bool xt, .int .i64 xn] rfl (At.new _ _ _) HRg.out HCp.out.1 HCp.out.2 HCz.out ?_); (intro v' w3 hown3 hg3 hat3); (have H3 := Lib.hid (And.intro hown3 hg3)); (clear hown3 hg3 hat3))
       go_roundw
       case rel => exact ⟨j + 1, out ++ [⟨xt, xn⟩], hlt, by go_num, HO2, H3.out.1, HIn.out, bgrown (HB1.out.alloc HB1.out.size _) H3.out.2 (HO1.out.alloc _) (Nat.le_refl _) HCz.out⟩
       case measure => simp [intOf]; omega
     ·have hq : (l == (k : Int)) = false := by simpa using hl
      have HO2 : Hid (out = firstsL (k : Int) (rs.take (j + 1))) := Lib.hid (by rw [HT.out, firstsL_snoc_miss (.inl hl)]; exact HO.out)
      go_wp2
      go_roundw
      case rel => exact ⟨j + 1, out, hlt, by go_num, HO2, HOw.out.alloc _, HIo.out, HBj.out.alloc HBj.out.size _⟩
      case measure => simp [intOf]; omega
    ·have HOa : Hid (out = firstsL (k : Int) rs) := Lib.hid (by have h := HO.out; rwa [List.take_of_length_le (by omega)] at h)
     clear HO
     have HBwj := Lib.hid (bthen HBwo.out HBj.out HBwo.out.size)
     have HB0j := Lib.hid (bthen HBo.out HBj.out HBo.out.size)
     have hol : out.length ≤ 1000 := by
      have h1 := firstsL_len (k : Int) rs
      rw [← HOa.out] at h1
      omega
     have HSr := Lib.hid (sortRow_any wj Av out cv HBj.out.size HOw.out HIo.out (by omega))
     clear HOw HIo hol
     go_wp2_with fail
     refine HSr.out.mono ?_
     rintro e w3 ⟨rfl, ys, hys, hsort, hEy, hb3⟩
     have HYs := Lib.hid hys
     have HSo := Lib.hid hsort
     have HEy := Lib.hid hEy
     have hyl : ys.length = out.length := hys.length_eq
     have HYl := Lib.hid hyl
     rw [← hyl]
     have hyl2 : ys.length ≤ 1000 := by
      have h1 := firstsL_len (k : Int) rs
      rw [← HOa.out, ← hyl] at h1
      omega
     have HB3 := Lib.hid (bthen HBo.out (bthen HBj.out hb3 (Nat.le_refl _)) HBo.out.size)
     have HBw3 := Lib.hid (bthen HBwo.out (bthen HBj.out hb3 (Nat.le_refl _)) HBwo.out.size)
     clear hys hsort hEy hyl hb3 HSr HBj HAj
     go_wp2_with fail
     go_loopw [7] (fun i wr => ∃ p : Nat, p ≤ 1000 ∧ i = .int .i64 ((p : Int) + 1) ∧ (∀ (q : Nat) (u v : Sym), q < p → ys[q]? = some u → ys[q + 1]? = some v → u ≠ v) ∧ Below w3.heap.size w3 wr) (fun i _ => 1001 - (intOf i).toNat)
     case atStart => exact ⟨0, by omega, rfl, fun q u v h => by omega, Below.refl _ _⟩
     case round =>
      obtain ⟨wp, hwp⟩ : ∃ wp : World, wp = wr := ⟨_, rfl⟩
      subst hwp
      obtain ⟨p, hp2, rfl, hno, hb⟩ := hrel
      have HNo := Lib.hid hno
      have HBp := Lib.hid hb
      have HEp := Lib.hid (HEy.out.below hb)
      clear hno hb
      by_cases hpl : p + 1 < ys.length
      ·have hpl' : (p : Int) + 1 < (ys.length : Int) := by omega
       have hpl2 : (p : Int) < (ys.length : Int) := by omega
       have hp0 : (0 : Int) ≤ (p : Int) := by omega
       have hp1 : (0 : Int) ≤ (p : Int) + 1 := by omega
       have hwr : IntKind.i64.wrap (p : Int) = (p : Int) := by simp [IntKind.wrap, IntKind.bits, IntKind.signed]; omega
       obtain ⟨x, hx⟩ := get_some (show p < ys.length by omega)
       obtain ⟨y, hy⟩ := get_some hpl
       obtain ⟨b, o, rfl, _, hbs, hi, hc0, hc1⟩ := HEp.out.sym hx
       obtain ⟨b', o', e2, _, hbs', hi', hc0', hc1'⟩ := HEp.out.sym hy
       injection e2 with e2
       injection e2 with e3 e4 _
       subst e3; subst e4
       have HX := Lib.hid (And.intro hx hy)
       clear hx hy hbs' hi hi'
       obtain ⟨t, z⟩ := x
       obtain ⟨t', z'⟩ := y
       dsimp only at *
       have HNo1 : Hid (¬ ((⟨t, z⟩ : Sym) = ⟨t', z'⟩) → ∀ (q : Nat) (u v : Sym), q < p + 1 → ys[q]? = some u → ys[q + 1]? = some v → u ≠ v) := Lib.hid (fun hne q u v hq hu hv => by
        by_cases e : q = p
        ·subst e
         rw [HX.out.1] at hu
         rw [HX.out.2] at hv
         injection hu with hu
         injection hv with hv
         subst hu; subst hv
         exact hne
        ·exact HNo.out q u v (by omega) hu hv)
       by_cases ht : t' = t
       ·subst ht
        by_cases hz : z' = z
        ·subst hz
         have HXx := Lib.hid (And.intro (fun (u : Sym) (hu : 2 ≤ ys.count u) => sorted_first HSo.out HX.out.1 HNo.out hu) (count_two (Nat.lt_succ_self p) HX.out.1 HX.out.2))
         have HB0p := Lib.hid (bthen HB3.out HBp.out HB3.out.size)
         have HGp := Lib.hid (HG0.out.below HB0p.out HG0.out.lt)
         have g3 : wp.cell? ⟨w.heap.size, 3, none⟩ = some (.slice A rs.length c) := HGp.out.cell 3
         have zgp := HGp.out.lt
         go_wp2_with fail
         go_quiet (fail)
         go_wp2_with fail
         clear g3
         obtain ⟨wd, hwd⟩ : ∃ q : World, q = wp.drewN nq := ⟨_, rfl⟩
         rw [← hwd]
         have HBd : Hid (Below w0.heap.size w0 wd) := Lib.hid (by rw [hwd]; exact bdrewN HB0p.out)
         have HBwd : Hid (Below w.heap.size w wd) := Lib.hid (bthen HB0.out HBd.out HB0.out.size)
         have HEd : Hid (Els wd (fun b => wo.heap.size ≤ b ∧ b < w3.heap.size) ys (some ⟨b, o, none⟩)) := Lib.hid (HEp.out.below (by rw [hwd]; exact bdrewN (Below.refl _ _)))
         have HAd := Lib.hid (HA.out.below HBd.out)
         have hbd : b < wd.heap.size := by rw [hwd]; exact hbs
         have HBsz : Hid (w.heap.size ≤ wd.heap.size) := Lib.hid HBwd.out.size
         clear hwd hbs
         go_loopw [8, 62] (fun v i wr => ∃ (j : Nat) (out : List Int), j ≤ rs.length ∧ i = .int .i64 (j : Int) ∧ out.length ≤ j ∧ Hid (placesL ⟨gt, (n : Int), gs, rs⟩ (k : Int) ⟨t', z'⟩ = out ++ whereFrom (hasF (k : Int) ⟨t', z'⟩) j (rs.drop j)) ∧ Own wr (fun _ => False) wd.heap.size 3 v out ∧ Below wd.heap.size wd wr) (fun _ i _ => rs.length - (intOf i).toNat)
         case atStart => exact ⟨0, [], Nat.zero_le _, rfl, Nat.le_refl _, Lib.hid rfl, Own.nil _ _ _ _, Below.refl _ _⟩
         case round =>
          obtain ⟨wj, hwj⟩ : ∃ wj : World, wj = wr := ⟨_, rfl⟩
          subst hwj
          obtain ⟨j, out, hj, rfl, hol, HO, hown, hb⟩ := hrel
          obtain ⟨Av, cv, rfl, _⟩ := hown.form
          have HOw := Lib.hid hown
          have HBj := Lib.hid hb
          have HAj := Lib.hid (HAd.out.below hb)
          have HEj := Lib.hid (HEd.out.below hb)
          clear hown hb
          by_cases hlt : j < rs.length
          ·have hlt' : (j : Int) < (rs.length : Int) := by omega
           have hj0 : (0 : Int) ≤ (j : Int) := by omega
           obtain ⟨r, hr⟩ := get_some hlt
           obtain ⟨br, orr, Ar, cr, rfl, _, hbr, hir, hrc, hcr, hEr, hrc0, hrc1⟩ := HAj.out.rule hr
           have HD := Lib.hid (drop_cons hr)
           obtain ⟨l, rr⟩ := r
           dsimp only at *
           have HEr := Lib.hid hEr
           obtain ⟨w1, hw1⟩ : ∃ q : World, q = wj.alloc (.cells #[.int .i64 l, .slice Ar rr.length cr] 33) := ⟨_, rfl⟩
           have HW1 := Lib.hid hw1
           have HB1 : Hid (Below wd.heap.size wd w1) := Lib.hid (by rw [hw1]; exact HBj.out.alloc HBj.out.size _)
           have HBa : Hid (Below wj.heap.size wj w1) := Lib.hid (by rw [hw1]; exact (Below.refl _ _).alloc (Nat.le_refl _) _)
           have HO1 : Hid (Own w1 (fun _ => False) wd.heap.size 3 (.slice Av out.length cv) out) := Lib.hid (by rw [hw1]; exact HOw.out.alloc _)
           have HO1d : Hid (∀ m, Own (w1.drewN m) (fun _ => False) wd.heap.size 3 (.slice Av out.length cv) out) := Lib.hid (fun m => HO1.out.below (bdrewN (Below.refl _ _)) (Nat.le_refl _))
           have HQ1 : Hid (Blk' w1 wj.heap.size 33 #[.int .i64 l, .slice Ar rr.length cr]) := Lib.hid (by rw [hw1]; exact Blk'.new _ _ _)
           obtain ⟨b9, o9, e9, _, hb9, _, y0, y1⟩ := (HEj.out.below HBa.out).sym HX.out.2
           injection e9 with e9
           injection e9 with e8 e7 _
           subst e8; subst e7
           have q0 : w1.cell? ⟨wj.heap.size, 0, none⟩ = some (.int .i64 l) := HQ1.out.cell 0
           have q1 : w1.cell? ⟨wj.heap.size, 1, none⟩ = some (.slice Ar rr.length cr) := HQ1.out.cell 1
           have zq := HQ1.out.lt
           have HE1 := Lib.hid (HEr.out.below HBa.out)
           dsimp only at y0 y1
           clear hr hEr hw1 hir hc0 hc1 hc0' hc1'
           go_upto_region 20 with (fail)
           clear hrc0 hrc1 hbr
           rw [← HW1.out]
           by_cases hl : l = (k : Int)
           ·subst hl
            have d1 : ((k : Int) == (k : Int)) = true := by simp
            cases rr with
            | nil =>
             have HO2 : Hid (placesL ⟨gt, (n : Int), gs, rs⟩ (k : Int) ⟨t', z'⟩ = out ++ whereFrom (hasF (k : Int) ⟨t', z'⟩) (j + 1) (rs.drop (j + 1))) := Lib.hid (by rw [HO.out, HD.out, whereFrom, if_neg (by rw [hasF_false (.inr (.inl rfl))]; simp)])
             go_wp2_with fail
             go_quiet (fail)
             go_wp2
             go_roundw
             case rel => exact ⟨j + 1, out, hlt, by go_num, by omega, HO2, HO1d.out _, bdrewN HB1.out⟩
             case measure => simp [intOf]; omega
            | cons x ss =>
             obtain ⟨b2, o2, rfl, _, hb2, hi2, hs0, hs1⟩ := HE1.out.sym (k := 0) (x := x) rfl
             have hs0 : w1.cell? ⟨b2, o2, none⟩ = some (.bool x.term) := by simpa using hs0
             have hs1 : w1.cell? ⟨b2, o2 + 1, none⟩ = some (.int .i64 x.n) := by simpa using hs1
             have hpos : (0 : Int) < ((ss.length : Int) + 1) := by omega
             obtain ⟨xt, xn⟩ := x
             dsimp only at *
             by_cases hxt : xt = t'
             ·subst hxt
              by_cases hxn : xn = z'
              ·subst hxn
               have HO2 : Hid (placesL ⟨gt, (n : Int), gs, rs⟩ (k : Int) ⟨xt, xn⟩ = (out ++ [(j : Int)]) ++ whereFrom (hasF (k : Int) ⟨xt, xn⟩) (j + 1) (rs.drop (j + 1))) := Lib.hid (by rw [HO.out, HD.out, whereFrom, if_pos (by simp [hasF])]; simp)
               have hcap1 : (out.length + 1) * 8 ≤ 140737488355328 := by omega
               have hcap2 : out.length + 1 ≤ 9223372036854775807 := by omega
               have HI : Hid (I64 (j : Int)) := Lib.hid ⟨by omega, by omega⟩
               have HCp := Lib.hid (And.intro hcap1 hcap2)
               clear hcap1 hcap2
               go_wp2_with fail
               go_quiet (fail)
               obtain ⟨w2, hw2⟩ : ∃ q : World, q = w1.drewN nq := ⟨_, rfl⟩
               have HW2 := Lib.hid hw2
               have HO3 : Hid (Own w2 (fun _ => False) wd.heap.size 3 (.slice Av out.length cv) out) := Lib.hid (by rw [hw2]; exact HO1d.out _)
               have HB3' : Hid (Below wd.heap.size wd w2) := Lib.hid (by rw [hw2]; exact bdrewN HB1.out)
               clear hw2
               go_upto_region 21 with (fail)
               rw [← HW2.out]
               go_wp2_with (at_builtin; (refine wpList_own1 _ rfl _ _ elemInt rfl rfl (HO3.out.alloc _) (j : Int) [.int .i64 (j : Int)] rfl (At.new _ _ _) ⟨rfl, HI.out⟩ HCp.out.1 HCp.out.2 (Nat.le_trans HB3'.out.size ((Below.refl _ _).alloc (Nat.le_refl _) _).size) ?_); (intro v' w3' hown3 hg3 hat3); (have H3 := Lib.hid (And.intro hown3 hg3)); (clear hown3 hg3 hat3))
               go_roundw
               case rel => exact ⟨j + 1, out ++ [(j : Int)], hlt, by go_num, by simp; omega, HO2, H3.out.1, bgrown (HB3'.out.alloc HB3'.out.size _) H3.out.2 (HO3.out.alloc _) (Nat.le_refl _) (Nat.le_trans HB3'.out.size ((Below.refl _ _).alloc (Nat.le_refl _) _).size)⟩
               case measure => simp [intOf]; omega
              ·have d3 : (xn == z') = false := by simpa using hxn
               have HO2 : Hid (placesL ⟨gt, (n : Int), gs, rs⟩ (k : Int) ⟨xt, z'⟩ = out ++ whereFrom (hasF (k : Int) ⟨xt, z'⟩) (j + 1) (rs.drop (j + 1))) := Lib.hid (by rw [HO.out, HD.out, whereFrom, if_neg (by rw [hasF_false (.inr (.inr (by simpa using hxn)))]; simp)])
               clear hxn
               go_wp2_with fail
               go_quiet (fail)
               go_wp2
               go_roundw
               case rel => exact ⟨j + 1, out, hlt, by go_num, by omega, HO2, HO1d.out _, bdrewN HB1.out⟩
               case measure => simp [intOf]; omega
             ·have d3 : (xt == t') = false := by simpa using hxt
              have HO2 : Hid (placesL ⟨gt, (n : Int), gs, rs⟩ (k : Int) ⟨t', z'⟩ = out ++ whereFrom (hasF (k : Int) ⟨t', z'⟩) (j + 1) (rs.drop (j + 1))) := Lib.hid (by rw [HO.out, HD.out, whereFrom, if_neg (by rw [hasF_false (.inr (.inr (by simp [hxt])))]; simp)])
              clear hxt
              go_wp2_with fail
              go_quiet (fail)
              go_wp2
              go_roundw
              case rel => exact ⟨j + 1, out, hlt, by go_num, by omega, HO2, HO1d.out _, bdrewN HB1.out⟩
              case measure => simp [intOf]; omega
           ·have d1 : (l == (k : Int)) = false := by simpa using hl
            have HO2 : Hid (placesL ⟨gt, (n : Int), gs, rs⟩ (k : Int) ⟨t', z'⟩ = out ++ whereFrom (hasF (k : Int) ⟨t', z'⟩) (j + 1) (rs.drop (j + 1))) := Lib.hid (by rw [HO.out, HD.out, whereFrom, if_neg (by rw [hasF_false (.inl hl)]; simp)])
            clear hl
            go_wp2_with fail
            go_quiet (fail)
            go_wp2
            go_roundw
            case rel => exact ⟨j + 1, out, hlt, by go_num, by omega, HO2, HO1d.out _, bdrewN HB1.out⟩
            case measure => simp [intOf]; omega
          ·have HR : Hid (GrpIs ⟨gt, (n : Int), gs, rs⟩ n out) := Lib.hid (.inr ⟨k, ⟨t', z'⟩, hkn, HND.out, by
            rw [← HOa.out, ← HYs.out.count_eq]; exact HXx.out.2, fun u hu => by rw [← HOa.out, ← HYs.out.count_eq] at hu; have := HXx.out.1 u hu; omega, by rw [HO.out, List.drop_of_length_le (by omega), whereFrom, List.append_nil]⟩)
           have HRb : Hid (Own wj (fun _ => False) w.heap.size 3 (.slice Av out.length cv) out) := Lib.hid (HOw.out.base HBsz.out)
           have HRc := Lib.hid (bthen HBwd.out HBj.out HBwd.out.size)
           have HRd : Hid (out = [] → (Value.slice Av out.length cv) = .slice none 0 0) := Lib.hid (fun e => by
            have hm : (⟨t', z'⟩ : Sym) ∈ firstsL (k : Int) rs := by
             rw [← HOa.out]
             exact HYs.out.mem_iff.1 (List.mem_of_getElem? HX.out.2)
            have h1 := placesL_ne (g := ⟨gt, (n : Int), gs, rs⟩) hm
            rw [HO.out, List.drop_of_length_le (by omega), whereFrom, List.append_nil] at h1
            exact absurd e h1)
           go_wp2
           go_ret
           exact ⟨_, out, rfl, HR.out, HRb.out, HRd.out, HRc.out⟩
        ·have HNo2 := Lib.hid (HNo1.out (fun e => hz (by injection e with _ e; exact e.symm)))
         have hq : (z' == z) = false := by simpa using hz
         clear hz
         go_wp2_with fail
         go_quiet (fail)
         go_wp2
         go_roundw
         case rel => exact ⟨p + 1, by omega, by go_num, HNo2.out, bdrewN HBp.out⟩
         case measure => simp [intOf]; omega
       ·have HNo2 := Lib.hid (HNo1.out (fun e => ht (by injection e with e _; exact e.symm)))
        have hq : (t' == t) = false := by simpa using ht
        clear ht
        go_wp2_with fail
        go_quiet (fail)
        go_wp2
        go_roundw
        case rel => exact ⟨p + 1, by omega, by go_num, HNo2.out, bdrewN HBp.out⟩
        case measure => simp [intOf]; omega
      ·have hpl' : ¬ (p : Int) + 1 < (ys.length : Int) := by omega
       have HN1 : Hid (∀ m : Nat, m < k + 1 → (firstsL (m : Int) rs).Nodup) := Lib.hid (fun m hm => by
        by_cases e : m = k
        ·subst e
         rw [← HOa.out]
         refine HYs.out.nodup_iff.1 (sorted_dup HSo.out (fun i u v hu hv => HNo.out i u v (by have := (List.getElem?_eq_some_iff.1 hv).1; omega) hu hv))
        ·exact HND.out m (by omega))
       go_wp2
       go_roundw
       case rel => exact ⟨k + 1, by omega, by go_num, HN1.out, bthen HB3.out HBp.out HB3.out.size⟩
       case measure => simp [intOf]; omega
  ·have HN1 : Hid (GrpIs ⟨gt, (n : Int), gs, rs⟩ n []) := Lib.hid (.inl ⟨rfl, fun m hm => HND.out m (by omega)⟩)
   go_wp2
   go_ret
   exact ⟨_, [], rfl, HN1.out, Own.nil _ _ _ _, fun _ => rfl, HBwo.out⟩
end Go.Proofs.Ytjdojogjogenkaa
