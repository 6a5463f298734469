/- Contract: parlref2.Renamed, of a trimmed grammar's nonterminals and rules, makes the trimmed grammar. -/
import Derived.Test.YtbboceklkjfimaaDoorQRTrim
import Derived.Test.YtbboceklkjfimaaDoorQContInt
import Derived.Deep.RegionHeld3
namespace Go.Proofs.YtbboceklkjfimaaDoor
open Go.RowKit
set_option linter.unusedVariables false

theorem tf_get : ∀ (s : List Bool) (k0 k : Nat), s[k]? = some true → (trueFrom k0 s)[(s.take k).count true]? = some ((k0 + k : Nat) : Int) ∧ ∀ y ∈ (trueFrom k0 s).take ((s.take k).count true), y < ((k0 + k : Nat) : Int)
  | [], _, _, h => by simp at h
  | b :: s, k0, 0, h => by simp at h; subst h; simp [trueFrom]
  | b :: s, k0, k + 1, h => by
    obtain ⟨i1, i2⟩ := tf_get s (k0 + 1) k (by simpa using h)
    rw [show k0 + 1 + k = k0 + (k + 1) from by omega] at i1 i2
    cases b
    · simpa [trueFrom] using ⟨i1, i2⟩
    · have e : ((true :: s).take (k + 1)).count true = (s.take k).count true + 1 := by simp
      rw [e, trueFrom]
      simp only [if_true, List.getElem?_cons_succ, List.take_succ_cons]
      refine ⟨i1, fun y hy => ?_⟩
      rcases List.mem_cons.1 hy with rfl | hy
      · omega
      · exact i2 y hy
theorem tf_idx {s : List Bool} {k : Nat} (h : s[k]? = some true) : idxI (fun x => (k : Int) == x) (trueFrom 0 s) = (toV s k : Int) := by
  obtain ⟨i1, i2⟩ := tf_get s 0 k h
  have e : toV s k = (s.take k).count true := by unfold toV; rw [List.getD_eq_getElem?_getD, h]; rfl
  rw [e]
  rw [Nat.zero_add] at i1 i2
  refine idxI_hit i1 (by simp) (fun y hy => ?_)
  have := i2 y hy
  simp; omega
theorem wf_get (p : Rule → Bool) : ∀ (rs : List Rule) (k0 j : Nat) (v : Int), (whereFrom p k0 rs)[j]? = some v → ∃ (i : Nat) (q : Rule), v = ((k0 + i : Nat) : Int) ∧ rs[i]? = some q ∧ p q = true ∧ (rs.filter p)[j]? = some q
  | [], k0, j, v, h => by simp [whereFrom] at h
  | r :: rs, k0, j, v, h => by
    unfold whereFrom at h
    by_cases hp : p r = true
    · rw [if_pos hp] at h
      cases j with
      | zero => simp at h; exact ⟨0, r, by simp [← h], rfl, hp, by simp [hp]⟩
      | succ j =>
        obtain ⟨i, q, h1, h2, h3, h4⟩ := wf_get p rs (k0 + 1) j v (by simpa using h)
        exact ⟨i + 1, q, by rw [h1]; congr 1; omega, by simpa using h2, h3, by simpa [hp] using h4⟩
    · rw [if_neg hp] at h
      obtain ⟨i, q, h1, h2, h3, h4⟩ := wf_get p rs (k0 + 1) j v h
      exact ⟨i + 1, q, by rw [h1]; congr 1; omega, by simpa using h2, h3, by simpa [hp] using h4⟩
theorem wf_len (p : Rule → Bool) : ∀ (rs : List Rule) (k0 : Nat), (whereFrom p k0 rs).length = (rs.filter p).length
  | [], _ => rfl
  | r :: rs, k0 => by
    unfold whereFrom
    by_cases hp : p r = true
    · simp [hp, wf_len p rs]
    · simp [hp, wf_len p rs]

def RnL (g : Gram) (L : List Int) (s : List Bool) (nums : List Int) (O : Nat) (wo : World) (i : Value) (wr : World) : Prop :=
  ∃ (k : Nat) (vs : Value) (rk : List Rule), k ≤ nums.length ∧ i = .int .i64 k ∧ rk = ((g.rules.filter (stayB L s)).take k).map (trimRule s) ∧ Blk' wr O 35 #[.int .i64 g.terms, .int .i64 (s.count true : Nat), .int .i64 (toV s g.start.toNat : Nat), vs] ∧
    Own wr (fun _ => False) (O + 1) 72 vs rk ∧ Below O wo wr

set_option maxRecDepth 100000 in
set_option maxHeartbeats 4000000 in
theorem renamed_any (g : Gram) (n : Nat) (L : List Int) (s : List Bool) (A An Ar : Option Addr) (c cn cr : Nat) (S Sn Sr : Nat → Prop) (w : World) (nons nums : List Int) (hgn : g.nons = (n : Int)) (hck : checkI g = 0) (hlc : g.rules.length ≤ c) (hc : c ≤ 9223372036854775807) (hA : Els w S g.rules A) (hS : ∀ b, S b → b < w.heap.size)
    (hts : TrimS g n L s) (hnons : nons = trueFrom 0 s) (hnums : nums = whereFrom (stayB L s) 0 g.rules) (hAn : Els w Sn nons An) (hSn : ∀ b, Sn b → b < w.heap.size) (hAr : Els w Sr nums Ar) (hSr : ∀ b, Sr b → b < w.heap.size) :
    Calls Tryd.prog 33 #[.agg #[.int .i64 g.terms, .int .i64 g.nons, .int .i64 g.start, .slice A g.rules.length c], .slice An nons.length cn, .slice Ar nums.length cr] w
      fun e w' => ∃ vg, e = .returned vg ∧ Vl w' (fun b => w.heap.size ≤ b ∧ b < w'.heap.size) (trimG g L s) vg ∧ Below w.heap.size w w' := by
  have hv := validG_of hck
  have hri := hv.rulesIn hgn
  obtain ⟨gt, gn, gs, rs⟩ := g
  dsimp only at *
  subst hgn
  obtain ⟨s0, rfl⟩ : ∃ s0 : Nat, gs = (s0 : Int) := ⟨gs.toNat, by have := hv.s0; dsimp only at this; omega⟩
  have hs0 : s0 < n := by have := hv.s1; dsimp only at this; omega
  have hn10 : n ≤ 10 := by have := hv.n10; dsimp only at this; omega
  have hrl : rs.length ≤ 32 := hv.len
  have hsl : s.length = n := hts.reach.len
  have hst : s[s0]? = some true := by have h := hts.reach.start; simpa using h
  have hnl : nons.length = s.count true := by rw [hnons, trueFrom_len]
  have hct : s.count true ≤ 10 := by have := List.count_le_length (a := true) (l := s); omega
  have hml : nums.length ≤ 32 := by rw [hnums]; have := whereFrom_len (stayB L s) 0 rs; omega
  have htb : ∀ k, toV s k ≤ 10 := fun k => by unfold toV; split; have := List.count_le_length (a := true) (l := s.take k); rw [List.length_take] at this; omega; omega
  have HV := Lib.hid hv
  have HRI := Lib.hid hri
  have HA := Lib.hid hA
  have HS := Lib.hid hS
  have HAn := Lib.hid hAn
  have HAr := Lib.hid hAr
  have HSn := Lib.hid hSn
  have HSr := Lib.hid hSr
  have HTS := Lib.hid hts
  have HTb := Lib.hid htb
  have HIx : Hid (∀ k : Nat, s[k]? = some true → idxI (fun x => (k : Int) == x) nons = (toV s k : Int)) := Lib.hid (fun k hk => by rw [hnons]; exact tf_idx hk)
  have HNum : Hid (∀ (j : Nat) (v : Int), nums[j]? = some v → ∃ (i : Nat) (q : Rule), v = (i : Int) ∧ rs[i]? = some q ∧ stayB L s q = true ∧ (rs.filter (stayB L s))[j]? = some q) := Lib.hid (fun j v hj => by
    rw [hnums] at hj
    obtain ⟨i, q, h1, h2, h3, h4⟩ := wf_get _ rs 0 j v hj
    exact ⟨i, q, by rw [h1, Nat.zero_add], h2, h3, h4⟩)
  have HFl : Hid (nums.length = (rs.filter (stayB L s)).length) := Lib.hid (by rw [hnums]; exact wf_len _ rs 0)
  have HSt := Lib.hid hst
  have hm9 : nums.length ≤ 9223372036854775807 := by omega
  have hn9 : nons.length ≤ 9223372036854775807 := by omega
  have HNl := Lib.hid hnl
  obtain ⟨w0, hw0⟩ : ∃ w0 : World, w0 = (w.alloc (.cells #[.int .i64 gt, .int .i64 (n : Int), .int .i64 (s0 : Int), .slice A rs.length c] 35)).alloc (.cells #[.int .i64 0, .int .i64 0, .int .i64 0, .slice none 0 0] 35) := ⟨_, rfl⟩
  have hz0 : w0.heap.size = w.heap.size + 2 := by rw [hw0]; simp
  have hb0 : Below w.heap.size w w0 := by rw [hw0]; exact ((Below.refl _ _).alloc (Nat.le_refl _) _).alloc (by simp) _
  have hG0 : Blk' w0 w.heap.size 35 #[.int .i64 gt, .int .i64 (n : Int), .int .i64 (s0 : Int), .slice A rs.length c] := by rw [hw0]; exact (Blk'.new _ _ _).alloc _
  have hR0 : Blk' w0 (w.heap.size + 1) 35 #[.int .i64 0, .int .i64 0, .int .i64 0, .slice none 0 0] := by rw [hw0]; exact Blk'.new' _ _ _ (by simp)
  have g0 : w0.cell? ⟨w.heap.size, 0, none⟩ = some (.int .i64 gt) := hG0.cell 0
  have g2 : w0.cell? ⟨w.heap.size, 2, none⟩ = some (.int .i64 (s0 : Int)) := hG0.cell 2
  have zG : w.heap.size < w0.heap.size := hG0.lt
  obtain ⟨w1, hw1⟩ : ∃ w1 : World, w1 = (w0.alloc (.cells #[.int .i64 gt, .int .i64 (nons.length : Int), .int .i64 (toV s s0 : Int), .slice none 0 0] 35)).drew := ⟨_, rfl⟩
  have HB1 : Hid (Below w.heap.size w w1) := Lib.hid (by rw [hw1]; exact (hb0.alloc hb0.size _).drew)
  have HG1 : Hid (Blk' w1 w.heap.size 35 #[.int .i64 gt, .int .i64 (n : Int), .int .i64 (s0 : Int), .slice A rs.length c]) := Lib.hid (by rw [hw1]; exact (hG0.alloc _).drew)
  have HR1 : Hid (Blk' w1 (w.heap.size + 1) 35 #[.int .i64 0, .int .i64 0, .int .i64 0, .slice none 0 0]) := Lib.hid (by rw [hw1]; exact (hR0.alloc _).drew)
  have HO1 : Hid (Blk' w1 w0.heap.size 35 #[.int .i64 gt, .int .i64 (s.count true : Nat), .int .i64 (toV s s0 : Nat), .slice none 0 0]) := Lib.hid (by rw [hw1, hnl]; exact (Blk'.new' _ _ _ rfl).drew)
  have HW0 := Lib.hid hw0
  have HW1 := Lib.hid hw1
  have HZ0 := Lib.hid hz0
  have HAn0 : Hid (Els w0 Sn nons An) := Lib.hid (hAn.below hb0)
  clear hv hri hA hS hck hts hnons hnums hAn hSn hAr hSr hnl htb hst hw0 hw1 hb0 hG0 hR0 hz0
  go_enter Tryd.func33, Tryd.ntmps33
  go_upto_region 1 with (fail)
  rw [← HW0.out]
  go_cut [7] (fun o wx => o = .pointer (some ⟨w0.heap.size, 0, none⟩) ∧ w1 = wx)
  case first =>
    go_region_held3 (fun w' => w'.cell? ⟨w.heap.size, 0, none⟩ = some (.int .i64 gt) ∧ w'.cell? ⟨w.heap.size, 2, none⟩ = some (.int .i64 (s0 : Int))) (go_keep)
      (first
      | (go_at_call 80
         first
         | (refine (indexInt_any An cn nons (s0 : Int) Sn _ hn9 (HAn0.out.below (Below.refl _ _).drew)).mono ?_)
         | (refine (indexInt_any An cn nons (s0 : Int) Sn _ hn9 (HAn0.out.below (((Below.refl _ _).alloc (Nat.le_refl _) _).drew))).mono ?_)
         | (refine (indexInt_any An cn nons (s0 : Int) Sn _ hn9 (HAn0.out.below ((Below.refl _ _).drew.alloc (Nat.le_refl _) _))).mono ?_)
         rintro e w' ⟨rfl, rfl⟩
         rw [HIx.out s0 HSt.out]))
    all_goals
      go_wp2_with fail
      go_meet
      exact ⟨rfl, HW1.out⟩
  case rest =>
  obtain ⟨rfl, rfl⟩ := hcut
  clear g0 g2 HAn0
  go_wp2_with fail
  go_loopw [24] (fun i wr => RnL ⟨gt, (n : Int), (s0 : Int), rs⟩ L s nums w0.heap.size w1 i wr) (fun i _ => nums.length - (intOf i).toNat)
  case atStart => exact ⟨0, _, [], Nat.zero_le _, rfl, by simp, HO1.out, Own.nil _ _ _ _, Below.refl _ _⟩
  case round =>
    obtain ⟨wo, hwo⟩ : ∃ wo : World, wo = wr := ⟨_, rfl⟩
    subst hwo
    obtain ⟨k, vs, rk, hk, rfl, hrk, hOB, hown, hb⟩ := hrel
    dsimp only at hOB hrk
    rw [show ((s0 : Int)).toNat = s0 from by omega] at hOB
    have HO := Lib.hid hown
    have HOB := Lib.hid hOB
    have HB := Lib.hid hb
    have HBo := Lib.hid (bthen HB1.out hb (by omega))
    have hGo := HG1.out.below hb (by omega)
    have HGo := Lib.hid hGo
    have g3 : wo.cell? ⟨w.heap.size, 3, none⟩ = some (.slice A rs.length c) := hGo.cell 3
    have zGo := hGo.lt
    have zO := hOB.lt
    have hzo := hb.size
    have HRk := Lib.hid hrk
    have hlk : rk.length = k := by rw [hrk, List.length_map, List.length_take]; have := HFl.out; omega
    have HLk := Lib.hid hlk
    clear hown hOB hb hGo hlk hrk
    by_cases hkn : k < nums.length
    · obtain ⟨v, hv⟩ := get_some hkn
      obtain ⟨i0, q, rfl, hq, hstay, hfq⟩ := HNum.out k v hv
      obtain ⟨bv, ov, eA, hSv, hbv, hv64, hva⟩ := (HAr.out.belowB HBo.out HSr.out).int hv
      subst eA
      have hk0 : (0 : Int) ≤ (k : Int) := by omega
      have hi0 : i0 < rs.length := (List.getElem?_eq_some_iff.1 hq).1
      have hi9 : (i0 : Int) < (rs.length : Int) := by omega
      obtain ⟨bq, oq, Aq, cq, eA, hSb, hbs, hi, hrc, hcr, hEr, hc0, hc1⟩ := (HA.out.belowB HBo.out HS.out).rule hq
      subst eA
      obtain ⟨hl0, hl1, hr4, hsy⟩ := HRI.out q (List.mem_of_getElem? hq)
      have HFq := Lib.hid (show ((rs.filter (stayB L s)).take (k + 1)).map (trimRule s) = rk ++ [trimRule s q] by rw [HRk.out, take_snoc hfq, List.map_append]; rfl)
      have hsq : s[q.left.toNat]? = some true ∧ useB L q = true := by
        unfold stayB at hstay
        simp only [Bool.and_eq_true] at hstay
        exact ⟨getD_true.1 hstay.1, hstay.2⟩
      have HIn := Lib.hid (fun x hx ht => HTS.out.reach.closed (List.mem_of_getElem? hq) hsq.1 hsq.2 (x := x) hx ht ((hsy x hx).2 ht))
      have HIq := Lib.hid (HIx.out _ hsq.1)
      have HQ := Lib.hid hsy
      obtain ⟨ql, qr⟩ := q
      dsimp only at hi hrc hcr hEr hc0 hc1 hl0 hl1 hr4 hsy
      obtain ⟨y0, rfl⟩ : ∃ y0 : Nat, ql = (y0 : Int) := ⟨ql.toNat, by omega⟩
      have HIq := Lib.hid (show idxI (fun x => (y0 : Int) == x) nons = (toV s y0 : Int) by have h := HIq.out; simpa using h)
      have HAno := Lib.hid (HAn.out.belowB HBo.out HSn.out)
      have HEr := Lib.hid hEr
      have htv := HTb.out y0
      have hxb : Below wo.heap.size wo (wo.alloc (.cells #[.int .i64 (toV s y0 : Int), .slice none 0 0] 72)) := (Below.refl _ _).alloc (Nat.le_refl _) _
      have HXl := Lib.hid hxb
      have HXB := Lib.hid (Blk'.new wo 72 #[.int .i64 (toV s y0 : Int), .slice none 0 0])
      have hqlen : qr.length ≤ 9223372036854775807 := by omega
      clear hv hq hstay hfq hv64 hi hEr hsy hsq hxb
      go_wp2_with fail
      refine (indexInt_any An cn nons (y0 : Int) Sn _ hn9 HAno.out).mono ?_
      rintro e w' ⟨rfl, rfl⟩
      rw [HIq.out]
      go_wp2_with fail
      go_loopw [44] (fun i wr => TrL3 s qr (toV s y0 : Int) wo i wr) (fun i _ => qr.length - (intOf i).toNat)
      case atStart => exact ⟨0, .slice none 0 0, Nat.zero_le _, rfl, HXl.out, HXB.out, by simpa using Own.nil _ _ _ _⟩
      case round =>
        obtain ⟨wz, hwz⟩ : ∃ wz : World, wz = wr := ⟨_, rfl⟩
        subst hwz
        obtain ⟨m, vx, hm, rfl, hbz, hXz, hoz⟩ := hrel
        have HBz := Lib.hid hbz
        have HXz := Lib.hid hXz
        have HOz := Lib.hid hoz
        have x1 : wz.cell? ⟨wo.heap.size, 1, none⟩ = some vx := hXz.cell 1
        have hsz : wo.heap.size < wz.heap.size := hXz.lt
        obtain ⟨Ax, cxx, e1, _, _, _⟩ := hoz.form
        subst e1
        have hml : ((qr.take m).map (renSym s)).length = m := by simp; omega
        have HMl := Lib.hid hml
        by_cases hmq : m < qr.length
        · obtain ⟨y, hy⟩ := get_some hmq
          have Hts := Lib.hid (show (qr.take (m + 1)).map (renSym s) = (qr.take m).map (renSym s) ++ [renSym s y] by rw [take_snoc hy, List.map_append]; rfl)
          have hsr := HQ.out y (List.mem_of_getElem? hy)
          have HYm := Lib.hid (List.mem_of_getElem? hy)
          have hE7 := HEr.out.below HBz.out
          obtain ⟨by_, oy, eA, hSy, hbsy, hyi, hyc0, hyc1⟩ := hE7.sym hy
          subst eA
          obtain ⟨yt, yn⟩ := y
          dsimp only at hyi hyc0 hyc1 hsr
          have hm0 : (0 : Int) ≤ (m : Int) := by omega
          have hy0 : 0 ≤ yn := hsr.1
          have f1 := HXz.out.frozen 1
          have hcap1 : (((qr.take m).map (renSym s)).length + 1) * 16 ≤ 140737488355328 := by rw [hml]; omega
          have hcap2 : ((qr.take m).map (renSym s)).length + 1 ≤ 9223372036854775807 := by rw [hml]; omega
          have HCap := Lib.hid (And.intro hcap1 hcap2)
          have hz2 : wo.heap.size < wz.heap.size + 1 := by omega
          have hz4 : wo.heap.size < wz.heap.size + 1 + 1 := by omega
          clear hy hoz hXz hbz hcap1 hcap2 hml
          cases yt
          · obtain ⟨y1, rfl⟩ : ∃ y1 : Nat, yn = (y1 : Int) := ⟨yn.toNat, by omega⟩
            have hsy1 : s[y1]? = some true := by have h := HIn.out ⟨false, (y1 : Int)⟩ HYm.out rfl; simpa using h
            have HI2 := Lib.hid (HIx.out y1 hsy1)
            have htv1 := HTb.out y1
            have HRs := Lib.hid (show renSym s ⟨false, (y1 : Int)⟩ = ⟨false, (toV s y1 : Int)⟩ from rfl)
            have HI : Hid (I64 (toV s y1 : Int)) := Lib.hid (by unfold I64; omega)
            have HAz := Lib.hid ((HAno.out.below HBz.out).below ((Below.refl _ _).alloc (Nat.le_refl _) (.cells #[.bool false, .int .i64 (y1 : Int)] 50)))
            have HOa := Lib.hid ((HOz.out.alloc (.cells #[.bool false, .int .i64 (toV s y1 : Int)] 50)).alloc (.cells #[.bool false, .int .i64 (toV s y1 : Int)] 50))
            have HXa := Lib.hid ((HXz.out.alloc (.cells #[.bool false, .int .i64 (toV s y1 : Int)] 50)).alloc (.cells #[.bool false, .int .i64 (toV s y1 : Int)] 50))
            have HBa8 := Lib.hid (((HBz.out.alloc (by omega) (.cells #[.bool false, .int .i64 (toV s y1 : Int)] 50)).alloc (by simp; omega) (.cells #[.bool false, .int .i64 (toV s y1 : Int)] 50)))
            clear hsr hsy1 hE7
            go_wp2_with fail
            refine (indexInt_any An cn nons (y1 : Int) Sn _ hn9 HAz.out).mono ?_
            rintro e w' ⟨rfl, rfl⟩
            rw [HI2.out]
            go_wp2_with (at_builtin; rw [← HMl.out]; refine wpList_own1 _ rfl _ _ elemSym rfl rfl HOa.out ⟨false, (toV s y1 : Int)⟩ [.bool false, .int .i64 (toV s y1 : Int)] rfl (by have h := At.new1 wz [.bool false, .int .i64 (toV s y1 : Int)] 50 (.cells #[.bool false, .int .i64 (toV s y1 : Int)] 50); exact h) ⟨rfl, HI.out⟩ HCap.out.1 HCap.out.2 (by simp; omega) ?_; intro v' w9 hown9 hg9 hat9; obtain ⟨A9, k9, hv9, _⟩ := hown9.form; subst hv9; have hX9 := HXa.out.grown hg9 (fun e => by have := (HOz.out.block _ e.symm).1; omega); have c9 := hX9.cell 1; have f9 := hX9.frozen 1; have H9 := Lib.hid (And.intro hown9 (And.intro hg9 hX9)); clear hown9 hg9 hat9 hX9; simp at c9)
            go_roundw
            case rel => exact ⟨m + 1, _, hmq, by go_num, (HBa8.out.grown H9.out.2.1 (by simp; omega) (fun b hb => by have := (HOz.out.block b hb).1; omega)).setCell (p := ⟨wo.heap.size, 1, none⟩) (Nat.le_refl _) _, H9.out.2.2.set_ 1 _, by
              have h := H9.out.1.setCell (p := ⟨wo.heap.size, 1, none⟩) (fun e => by have := (H9.out.1.block _ e).1; simp at this; omega) (by simp) (.slice A9 (m + 1) k9)
              rw [List.length_append, HMl.out] at h
              rw [Hts.out, HRs.out]
              exact h⟩
            case measure => simp [intOf]; omega
          · have HRs := Lib.hid (show renSym s ⟨true, yn⟩ = ⟨true, yn⟩ from rfl)
            have HI : Hid (I64 yn) := Lib.hid hyi
            have HOa := Lib.hid ((HOz.out.alloc (.cells #[.bool true, .int .i64 yn] 50)).alloc (.cells #[.bool true, .int .i64 yn] 50))
            have HXa := Lib.hid ((HXz.out.alloc (.cells #[.bool true, .int .i64 yn] 50)).alloc (.cells #[.bool true, .int .i64 yn] 50))
            have HBa8 := Lib.hid (((HBz.out.alloc (by omega) (.cells #[.bool true, .int .i64 yn] 50)).alloc (by simp; omega) (.cells #[.bool true, .int .i64 yn] 50)))
            clear hsr hE7
            go_wp2_with (at_builtin; rw [← HMl.out]; refine wpList_own1 _ rfl _ _ elemSym rfl rfl HOa.out ⟨true, yn⟩ [.bool true, .int .i64 yn] rfl (by have h := At.new1 wz [.bool true, .int .i64 yn] 50 (.cells #[.bool true, .int .i64 yn] 50); exact h) ⟨rfl, HI.out⟩ HCap.out.1 HCap.out.2 (by simp; omega) ?_; intro v' w9 hown9 hg9 hat9; obtain ⟨A9, k9, hv9, _⟩ := hown9.form; subst hv9; have hX9 := HXa.out.grown hg9 (fun e => by have := (HOz.out.block _ e.symm).1; omega); have c9 := hX9.cell 1; have f9 := hX9.frozen 1; have H9 := Lib.hid (And.intro hown9 (And.intro hg9 hX9)); clear hown9 hg9 hat9 hX9; simp at c9)
            go_roundw
            case rel => exact ⟨m + 1, _, hmq, by go_num, (HBa8.out.grown H9.out.2.1 (by simp; omega) (fun b hb => by have := (HOz.out.block b hb).1; omega)).setCell (p := ⟨wo.heap.size, 1, none⟩) (Nat.le_refl _) _, H9.out.2.2.set_ 1 _, by
              have h := H9.out.1.setCell (p := ⟨wo.heap.size, 1, none⟩) (fun e => by have := (H9.out.1.block _ e).1; simp at this; omega) (by simp) (.slice A9 (m + 1) k9)
              rw [List.length_append, HMl.out] at h
              rw [Hts.out, HRs.out]
              exact h⟩
            case measure => simp [intOf]; omega
        · have hmx : m = qr.length := by omega
          subst hmx
          have hlen : ((qr.take qr.length).map (renSym s)).length = qr.length := by simp
          have hXc : Blk' wz wo.heap.size 72 #[.int .i64 (toV s y0 : Int), .slice Ax qr.length cxx] := by have h := HXz.out; rw [hlen] at h; exact h
          have HOc := Lib.hid (show Own wz (fun _ => False) (wo.heap.size + 1) 50 (.slice Ax qr.length cxx) (qr.map (renSym s)) by have h := HOz.out; rw [hlen, List.take_length] at h; exact h)
          have hOBz := HOB.out.below HBz.out HOB.out.lt
          have ob3 : wz.cell? ⟨w0.heap.size, 3, none⟩ = some vs := hOBz.cell 3
          have hOz := HO.out.below HBz.out (Nat.le_refl _)
          obtain ⟨Avs, cvs, e1, hv1, hv2, _⟩ := hOz.form
          subst e1
          have y00 : wz.cell? ⟨wo.heap.size, 0, none⟩ = some (.int .i64 (toV s y0 : Int)) := hXc.cell 0
          have y11 : wz.cell? ⟨wo.heap.size, 1, none⟩ = some (.slice Ax qr.length cxx) := hXc.cell 1
          have HVa := Lib.hid (hOz.alloc (.cells #[.int .i64 (toV s y0 : Int), .slice Ax qr.length cxx] 72))
          have HOBa := Lib.hid (hOBz.alloc (.cells #[.int .i64 (toV s y0 : Int), .slice Ax qr.length cxx] 72))
          have HBpb := Lib.hid ((bthen HB.out HBz.out (by omega)).alloc (by omega) (.cells #[.int .i64 (toV s y0 : Int), .slice Ax qr.length cxx] 72))
          have hIt : I64 (toV s y0 : Int) := by unfold I64; omega
          have HRd : Hid (Dat.rd (wz.alloc (.cells #[.int .i64 (toV s y0 : Int), .slice Ax qr.length cxx] 72)) (OwnT (fun _ => False) (w0.heap.size + 1) (.slice Avs rk.length cvs) (wz.alloc (.cells #[.int .i64 (toV s y0 : Int), .slice Ax qr.length cxx] 72))) (trimRule s ⟨(y0 : Int), qr⟩) [.int .i64 (toV s y0 : Int), .slice Ax qr.length cxx]) := Lib.hid ⟨_, rfl, by simpa [trimRule] using hIt, (HOc.out.vl.below ((Below.refl _ _).alloc (Nat.le_refl _) _)).mono (fun b hb => ⟨.inr (by have := hb.1; simp at this; omega), fun e => by have := (HO.out.block b e).2; have := hb.1; simp at this; omega, by have := hb.2; simp; omega⟩)⟩
          have hcr1 : (rk.length + 1) * 32 ≤ 140737488355328 := by rw [HLk.out]; omega
          have hcr2 : rk.length + 1 ≤ 9223372036854775807 := by rw [HLk.out]; omega
          have HCap := Lib.hid (And.intro hcr1 hcr2)
          have f3 := hOBz.frozen 3
          have hzO2 : w0.heap.size < wz.heap.size + 1 := by omega
          have hzO3 : w0.heap.size < wz.heap.size := by omega
          clear hoz hXz hbz hml hXc x1 hOBz hlen hcr1 hcr2 hIt hOz
          go_wp2_with (at_builtin; refine wpList_own1 _ rfl _ _ elemRule rfl rfl HVa.out (trimRule s ⟨(y0 : Int), qr⟩) [.int .i64 (toV s y0 : Int), .slice Ax qr.length cxx] rfl (At.new wz [.int .i64 (toV s y0 : Int), .slice Ax qr.length cxx] 72) HRd.out HCap.out.1 HCap.out.2 (by simp; omega) ?_; intro v' w9 hown9 hg9 hat9; obtain ⟨A9, k9, hv9, _⟩ := hown9.form; subst hv9; have hX9 := HOBa.out.grown hg9 (fun e => by have := (HO.out.block _ e.symm).1; omega); have c9 := hX9.cell 3; have f9 := hX9.frozen 3; have H9 := Lib.hid (And.intro hown9 (And.intro hg9 hX9)); clear hown9 hg9 hat9 hX9; simp at c9)
          go_roundw
          case rel => exact ⟨k + 1, _, rk ++ [trimRule s ⟨(y0 : Int), qr⟩], hkn, by go_num, HFq.out.symm, H9.out.2.2.set_ 3 _, by
            have h := H9.out.1.setCell (p := ⟨w0.heap.size, 3, none⟩) (fun e => by have := (H9.out.1.block _ e).1; simp at this; omega) (by simp) (.slice A9 (rk.length + 1) k9)
            rw [snoc_len] at h
            exact h, (HBpb.out.grown H9.out.2.1 (by simp; omega) (fun b hb => by have := (HO.out.block b hb).1; omega)).setCell (p := ⟨w0.heap.size, 3, none⟩) (Nat.le_refl _) _⟩
          case measure => simp [intOf]; omega
    · have hkk : k = nums.length := by omega
      have HRs := Lib.hid (show (trimG ⟨gt, (n : Int), (s0 : Int), rs⟩ L s).rules = rk by rw [HRk.out, hkk, HFl.out, List.take_length]; rfl)
      have HRp := Lib.hid (HR1.out.below HB.out (by have := HZ0.out; omega))
      have r0 := HRp.out.frozen 0
      have r1 := HRp.out.frozen 1
      have r2 := HRp.out.frozen 2
      have r3 := HRp.out.frozen 3
      have q0 : wo.cell? ⟨w.heap.size + 1, 0, none⟩ = some (.int .i64 0) := HRp.out.cell 0
      have q1 : wo.cell? ⟨w.heap.size + 1, 1, none⟩ = some (.int .i64 0) := HRp.out.cell 1
      have q2 : wo.cell? ⟨w.heap.size + 1, 2, none⟩ = some (.int .i64 0) := HRp.out.cell 2
      have q3 : wo.cell? ⟨w.heap.size + 1, 3, none⟩ = some (.slice none 0 0) := HRp.out.cell 3
      have o0 : wo.cell? ⟨w0.heap.size, 0, none⟩ = some (.int .i64 gt) := HOB.out.cell 0
      have o1 : wo.cell? ⟨w0.heap.size, 1, none⟩ = some (.int .i64 ((s.count true : Nat) : Int)) := HOB.out.cell 1
      have o2 : wo.cell? ⟨w0.heap.size, 2, none⟩ = some (.int .i64 ((toV s s0 : Nat) : Int)) := HOB.out.cell 2
      have o3 : wo.cell? ⟨w0.heap.size, 3, none⟩ = some vs := HOB.out.cell 3
      obtain ⟨Avs, cvs, e1, _⟩ := HO.out.form
      subst e1
      have hz := ((((HRp.out.set_ 0 (.int .i64 gt)).set_ 1 (.int .i64 ((s.count true : Nat) : Int))).set_ 2 (.int .i64 ((toV s s0 : Nat) : Int))).set_ 3 (.slice Avs rk.length cvs))
      have z0 := hz.cell 0
      have z1 := hz.cell 1
      have z2 := hz.cell 2
      have z3 := hz.cell 3
      simp at z0 z1 z2 z3
      have HBz := Lib.hid (((((HBo.out.setCell (p := ⟨w.heap.size + 1, 0, none⟩) (by simp) (.int .i64 gt)).setCell (p := ⟨w.heap.size + 1, 1, none⟩) (by simp) (.int .i64 ((s.count true : Nat) : Int))).setCell (p := ⟨w.heap.size + 1, 2, none⟩) (by simp) (.int .i64 ((toV s s0 : Nat) : Int))).setCell (p := ⟨w.heap.size + 1, 3, none⟩) (by simp) (.slice Avs rk.length cvs)))
      have HKz := Lib.hid (((((Kept.refl (fun b => b = w.heap.size + 1) wo).setCell (p := ⟨w.heap.size + 1, 0, none⟩) (.inl rfl) (.int .i64 gt)).setCell (p := ⟨w.heap.size + 1, 1, none⟩) (.inl rfl) (.int .i64 ((s.count true : Nat) : Int))).setCell (p := ⟨w.heap.size + 1, 2, none⟩) (.inl rfl) (.int .i64 ((toV s s0 : Nat) : Int))).setCell (p := ⟨w.heap.size + 1, 3, none⟩) (.inl rfl) (.slice Avs rk.length cvs))
      have hrz : w.heap.size + 1 < wo.heap.size := HRp.out.lt
      have HZo := Lib.hid HZ0.out
      clear hz
      go_wp2
      refine bodyPost_ret (v := .agg #[.int .i64 gt, .int .i64 ((s.count true : Nat) : Int), .int .i64 ((toV s s0 : Nat) : Int), .slice Avs rk.length cvs]) (by simp [results, Tryd.results33, go_sem, z0, z1, z2, z3]) rfl ⟨_, rfl, ?_, HBz.out⟩
      have ht8 := HV.out.t8
      have ht1 := HV.out.t1
      dsimp only at ht8 ht1
      have hvs := (HO.out.vl.kept HKz.out (fun b hb h => by have h1 := hb.1; have h2 := HZo.out; simp at h1; omega)).mono (S' := fun b => w.heap.size ≤ b ∧ b < ((((wo.setCell ⟨w.heap.size + 1, 0, none⟩ (.int .i64 gt)).setCell ⟨w.heap.size + 1, 1, none⟩ (.int .i64 ((s.count true : Nat) : Int))).setCell ⟨w.heap.size + 1, 2, none⟩ (.int .i64 ((toV s s0 : Nat) : Int))).setCell ⟨w.heap.size + 1, 3, none⟩ (.slice Avs rk.length cvs)).heap.size) (fun b hb => ⟨by have := hb.1; simp at this; omega, by have := hb.2; simpa [World.setCell] using this⟩)
      exact Vl.of_gram (g := trimG ⟨gt, (n : Int), (s0 : Int), rs⟩ L s) (by show I64 gt; unfold I64; omega) (by show I64 ((s.count true : Nat) : Int); unfold I64; omega) (by show I64 ((toV s ((s0 : Int)).toNat : Nat) : Int); have := HTb.out ((s0 : Int)).toNat; unfold I64; omega) (by rw [HRs.out]; exact hvs)
end Go.Proofs.YtbboceklkjfimaaDoor
