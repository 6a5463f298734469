/- Contracts: strings.LastIndexByte at a line's end, layout.begin, twice, Check. -/
import Derived.Test.YtabehgggahnopaaLayD
import Derived.Test.YtabehgggahnopaaContInt
import Derived.StillTailTactics
import Derived.Deep.RegionLaw
import Derived.Deep.Cut
import Derived.IntWalk
namespace Go.Proofs.Ytabehgggahnopaa
open Go.RowKit
set_option linter.unusedVariables false

theorem isK_mem (k : K3) (z : Int) : decide (z ∈ [k.k0, k.k1, k.k2]) = isK k z := by
  unfold isK; simp [Bool.or_assoc]
theorem lnl_hit (s : ByteArray) (n : Nat) (h : s.data[n]! = 10) : lnl s (n + 1) = n + 1 := by unfold lnl; rw [if_pos h]
theorem lnl_miss (s : ByteArray) (n : Nat) (h : ¬ s.data[n]! = 10) : lnl s (n + 1) = lnl s n := by conv => lhs; unfold lnl; rw [if_neg h]
theorem byteAt (s : ByteArray) (j : Nat) (hj : j < s.size) : s.data[j]! = s[j] := by
  rw [getElem!_pos s.data j (by simpa using hj)]; rfl
theorem byte10 (x : UInt8) : ((x.toNat : Int) == 10) = decide (x = 10) := by
  by_cases h : x = 10
  · subst h; rfl
  · have : ¬ x.toNat = 10 := fun e => h (UInt8.toNat_inj.1 e)
    simp [h]; omega

set_option maxRecDepth 100000 in
set_option maxHeartbeats 4000000 in
theorem lastNl_any (s : ByteArray) (hs : s.size ≤ 1000000) (w : World) :
    Calls Try.prog 87 #[.string s, .int .u8 10] w fun e w' => e = .returned (.int .i64 ((lnl s s.size : Int) - 1)) ∧ w = w' := by
  go_enter Try.func87, Try.ntmps87
  go_wp2
  go_loop [5] (fun vi => ∃ k : Nat, k ≤ s.size ∧ vi = .int .i64 ((k : Int) - 1) ∧ Hid (lnl s s.size = lnl s k)) (fun vi => ((RowKit.intOf vi) + 1).toNat)
  case atStart => exact ⟨s.size, Nat.le_refl _, by first | rfl | go_num | (congr 1; omega), Lib.hid rfl⟩
  case round =>
    obtain ⟨k, hk, rfl, hh⟩ := hrel
    go_wp2
    · have hc : (((s[k - 1]).toNat : Int) == 10) = true := by assumption
      have k1 : 1 ≤ k := by omega
      have e1 : lnl s k = k := by
        have := lnl_hit s (k - 1) (by rw [byteAt s (k - 1) (by omega)]; rw [byte10] at hc; simpa using hc)
        rwa [show k - 1 + 1 = k by omega] at this
      go_ret
      rw [hh.out, e1]
      exact ⟨rfl, rfl⟩
    · have hc : (((s[k - 1]).toNat : Int) == 10) = false := by assumption
      have k1 : 1 ≤ k := by omega
      have e1 : lnl s k = lnl s (k - 1) := by
        have := lnl_miss s (k - 1) (by rw [byteAt s (k - 1) (by omega)]; rw [byte10] at hc; simpa using hc)
        rwa [show k - 1 + 1 = k by omega] at this
      refine ⟨⟨k - 1, by omega, by congr 1; omega, Lib.hid (hh.out.trans e1)⟩, ?_⟩
      simp [RowKit.intOf]; omega
    · have k0 : k = 0 := by omega
      subst k0
      go_ret
      rw [hh.out]
      exact ⟨rfl, rfl⟩
theorem lastByte_any (s : ByteArray) (hs : s.size ≤ 1000000) (w : World) :
    Calls Try.prog 57 #[.string s, .int .u8 10] w fun e w' => e = .returned (.int .i64 ((lnl s s.size : Int) - 1)) ∧ w = w' := by
  go_enter Try.func57, Try.ntmps57
  go_wp2_with fail
  refine (lastNl_any s hs w).mono ?_
  rintro e w1 ⟨rfl, rfl⟩
  go_wp2
  go_ret
  exact ⟨rfl, rfl⟩
theorem begin_any (s : ByteArray) (n : Nat) (hs : s.size ≤ 1000000) (hn : n ≤ s.size) (w : World) :
    Calls Try.prog 29 #[.string s, .int .i64 n] w fun e w' => e = .returned (.int .i64 (lnl s n : Nat)) ∧ w = w' := by
  have hz : (s.extract 0 n).size = n := by rw [ByteArray.size_extract]; omega
  have hc : lnl (s.extract 0 n) (s.extract 0 n).size = lnl s n := by rw [hz]; exact lnl_cut s n hn n (Nat.le_refl _)
  have HC := Lib.hid hc
  have h0 : (0 : Int) ≤ (n : Int) := by omega
  have h1 : (n : Int) ≤ (s.size : Int) := by omega
  have hle := lnl_le s n
  have HL := Lib.hid hle
  have HZ := Lib.hid hz
  clear hz hc hle
  go_enter Try.func29, Try.ntmps29
  go_wp2_with fail
  refine (lastByte_any (s.extract 0 n) (by rw [HZ.out]; omega) w).mono ?_
  rintro e w1 ⟨rfl, rfl⟩
  rw [HC.out]
  have hw : wrap64 (lnl s n : Int) = (lnl s n : Int) := IntWalk.wrap64_in _ (by have := HL.out; omega)
  have HW := Lib.hid hw
  clear hw
  go_wp2
  go_ret
  exact ⟨ret_int HW.out, rfl⟩

set_option maxRecDepth 100000 in
set_option maxHeartbeats 4000000 in
theorem twice_any (k : K3) (w : World) :
    Calls Try.prog 30 #[.agg #[.int .i64 k.k0, .int .i64 k.k1, .int .i64 k.k2]] w fun e w' => e = .returned (.bool (twiceK k)) ∧ Below w.heap.size w w' := by
  obtain ⟨a, b, c⟩ := k
  unfold twiceK
  dsimp only
  have hb : Below w.heap.size w (w.alloc (.cells #[.int .i64 a, .int .i64 b, .int .i64 c] 23)) := (Below.refl _ _).alloc (Nat.le_refl _) _
  go_enter Try.func30, Try.ntmps30
  by_cases h1 : a = b
  · subst h1
    go_wp2
    go_ret
    exact ⟨by simp, hb⟩
  · by_cases h2 : a = c
    · subst h2
      go_wp2
      go_ret
      exact ⟨by simp, hb⟩
    · by_cases h3 : b = c
      · subst h3
        go_wp2
        go_ret
        exact ⟨by simp, hb⟩
      · go_wp2
        go_ret
        exact ⟨by simp [h1, h2, h3], hb⟩

def ChL (s : ByteArray) (k : K3) (l : List Tok) (w1 : World) (lastv i : Value) (wr : World) : Prop :=
  ∃ (j : Nat) (last : Int), j ≤ l.length ∧ i = .int .i64 j ∧ lastv = .int .i64 last ∧ I64 last ∧ checkT s.size k 0 l = checkT s.size k last (l.drop j) ∧ Below w1.heap.size w1 wr
theorem badT_one {n : Nat} {k : K3} {last : Int} {t : Tok} (h : t.frm < last ∨ t.tos ≤ t.frm ∨ (n : Int) < t.tos) : badT n k last t = 1 := by unfold badT; rw [if_pos h]
theorem checkT_bad {n : Nat} {k : K3} {last : Int} {t : Tok} {l : List Tok} {e : Int} (h : badT n k last t = e) (he : e ≠ 0) : checkT n k last (t :: l) = e := by unfold checkT; rw [h, if_pos he]
theorem checkT_ok {n : Nat} {k : K3} {last : Int} {t : Tok} {l : List Tok} (h : badT n k last t = 0) : checkT n k last (t :: l) = checkT n k t.tos l := by conv => lhs; unfold checkT; rw [h, if_neg (by decide)]

set_option maxRecDepth 100000 in
set_option maxHeartbeats 8000000 in
theorem lcheck_any (s : ByteArray) (l : List Tok) (k : K3) (A : Option Addr) (c : Nat) (S : Nat → Prop) (w : World) (hs : s.size ≤ 9223372036854775807) (hk : I64 k.k0 ∧ I64 k.k1 ∧ I64 k.k2) (hlc : l.length ≤ c) (hc : c ≤ 9223372036854775807) (hA : Els w S l A) (hS : ∀ b, S b → b < w.heap.size) :
    Calls Try.prog 23 #[.string s, .slice A l.length c, .agg #[.int .i64 k.k0, .int .i64 k.k1, .int .i64 k.k2]] w fun e w' => e = .returned (.int .i64 (checkL s l k)) ∧ Below w.heap.size w w' := by
  have HK := Lib.hid hk
  have HS := Lib.hid hS
  have hl9 : l.length ≤ 9223372036854775807 := by omega
  have hM := fun z => isK_mem k z
  obtain ⟨ka, kb, kc⟩ := k
  dsimp only at *
  have HM := Lib.hid hM
  clear hM hk
  have KE_0 : Hid (Els w S l A) := Lib.hid (hA)
  clear hA hS
  obtain ⟨w_1, hww_1⟩ : ∃ w_1 : World, w_1 = w.alloc (.cells #[.int .i64 ka, .int .i64 kb, .int .i64 kc] 23) := ⟨_, rfl⟩
  have hbw_1 : Below w.heap.size w w_1 := by rw [hww_1]; exact (Below.refl _ _).alloc (by first | exact Nat.le_refl _ | (simp; done) | (simp; omega)) _
  have sqw_1 : w_1.heap.size = w.heap.size + 1 := by rw [hww_1]; simp
  have KE_1 : Hid (Els w_1 S l A) := Lib.hid (KE_0.out.below hbw_1)
  have QB_1 : Hid (Below w.heap.size w w_1) := Lib.hid (hbw_1)
  have sz_1 : w.heap.size + 1 ≤ w_1.heap.size := by rw [sqw_1]; exact Nat.le_refl _
  have KK_1 : Hid (Blk' w_1 (w.heap.size) 23 #[.int .i64 ka, .int .i64 kb, .int .i64 kc]) := Lib.hid (by rw [hww_1]; exact Blk'.new w _ _)
  have HWw_1 := Lib.hid hww_1
  have SQw_1 := Lib.hid sqw_1
  clear hww_1 hbw_1 sqw_1
  clear KE_0
  go_enter Try.func23, Try.ntmps23
  go_upto_region 1 with (fail)
  rw [← HWw_1.out]
  by_cases h1 : (4000 : Int) < (s.size : Int)
  · go_wp2
    go_ret
    exact ⟨by unfold checkL; rw [if_pos (.inl (by omega))]; rfl, QB_1.out⟩
  by_cases h2 : (400 : Int) < (l.length : Int)
  · go_wp2
    go_ret
    exact ⟨by unfold checkL; rw [if_pos (.inr (by omega))]; rfl, QB_1.out⟩
  have HSz := Lib.hid (And.intro h1 h2)
  have cK_1_0 : w_1.cell? ⟨w.heap.size, 0, none⟩ = some (.int .i64 ka) := KK_1.out.cell 0
  have cK_1_1 : w_1.cell? ⟨w.heap.size, 1, none⟩ = some (.int .i64 kb) := KK_1.out.cell 1
  have cK_1_2 : w_1.cell? ⟨w.heap.size, 2, none⟩ = some (.int .i64 kc) := KK_1.out.cell 2
  have zK_1 : w.heap.size < w_1.heap.size := KK_1.out.lt
  go_wp2_with fail
  refine (twice_any ⟨ka, kb, kc⟩ w_1).mono ?_
  rintro e w_2 ⟨rfl, hbz⟩
  clear cK_1_0 cK_1_1 cK_1_2 zK_1
  have KE_2 : Hid (Els w_2 S l A) := Lib.hid (KE_1.out.below hbz)
  have KK_2 : Hid (Blk' w_2 (w.heap.size) 23 #[.int .i64 ka, .int .i64 kb, .int .i64 kc]) := Lib.hid (KK_1.out.below hbz KK_1.out.lt)
  have QB_2 : Hid (Below w.heap.size w w_2) := Lib.hid (bthen QB_1.out hbz QB_1.out.size)
  have sz_2 : w_1.heap.size ≤ w_2.heap.size := (hbz).size
  clear hbz
  clear KE_1 KK_1 QB_1
  obtain ⟨T, hT⟩ : ∃ T, T = twiceK ⟨ka, kb, kc⟩ := ⟨_, rfl⟩
  rw [← hT]
  have HT := Lib.hid hT
  clear hT
  cases T
  rotate_left
  · go_wp2
    go_ret
    exact ⟨by unfold checkL; rw [if_neg (by have := HSz.out; omega), if_pos HT.out.symm]; rfl, QB_2.out⟩
  have HL : Hid (checkL s l ⟨ka, kb, kc⟩ = checkT s.size ⟨ka, kb, kc⟩ 0 l) := Lib.hid (by unfold checkL; rw [if_neg (by have := HSz.out; omega), if_neg (by rw [← HT.out]; simp)])
  go_wp2_with fail
  go_loopw [7, 22] (fun la i wr => ChL s ⟨ka, kb, kc⟩ l w_2 la i wr) (fun _ i _ => l.length - (intOf i).toNat)
  case atStart => exact ⟨0, 0, Nat.zero_le _, rfl, rfl, by unfold I64; omega, rfl, Below.refl _ _⟩
  case round =>
    obtain ⟨wo, hwo⟩ : ∃ wo : World, wo = wr := ⟨_, rfl⟩
    subst hwo
    obtain ⟨j, last, hj, rfl, rfl, hla, heq, hb⟩ := hrel
    have HEq := Lib.hid heq
    clear heq
    by_cases hlt : j < l.length
    · obtain ⟨t, ht⟩ := get_some hlt
      have hj0 : (0 : Int) ≤ (j : Int) := by omega
      have HD : Hid (l.drop j = t :: l.drop (j + 1)) := Lib.hid (drop_cons ht)
      have KL_2 : Hid (Below w_2.heap.size w_2 wo) := Lib.hid hb
      have KE_3 : Hid (Els wo S l A) := Lib.hid (KE_2.out.below hb)
      have KK_3 : Hid (Blk' wo (w.heap.size) 23 #[.int .i64 ka, .int .i64 kb, .int .i64 kc]) := Lib.hid (KK_2.out.below hb KK_2.out.lt)
      have QB_3 : Hid (Below w.heap.size w wo) := Lib.hid (bthen QB_2.out hb QB_2.out.size)
      have sz_3 : w_2.heap.size ≤ wo.heap.size := (hb).size
      clear hb
      clear KE_2 KK_2 QB_2
      obtain ⟨b, o, rfl, hSb, hbs, ti0, ti1, ti2, c0, c1, c2, c2'⟩ := KE_3.out.tok ht
      obtain ⟨tk, tf, tt⟩ := t
      dsimp only at ti0 ti1 ti2 c0 c1 c2 c2'
      have HTi := Lib.hid (And.intro ti0 (And.intro ti1 ti2))
      clear ht ti0 ti1 ti2
      obtain ⟨w_4, hww_4⟩ : ∃ w_4 : World, w_4 = wo.alloc (.cells #[.int .i64 tk, .int .i64 tf, .int .i64 tt] 28) := ⟨_, rfl⟩
      have hbw_4 : Below wo.heap.size wo w_4 := by rw [hww_4]; exact (Below.refl _ _).alloc (by first | exact Nat.le_refl _ | (simp; done) | (simp; omega)) _
      have sqw_4 : w_4.heap.size = wo.heap.size + 1 := by rw [hww_4]; simp
      have KE_4 : Hid (Els w_4 S l (some ⟨b, o, none⟩)) := Lib.hid (KE_3.out.below hbw_4)
      have KK_4 : Hid (Blk' w_4 (w.heap.size) 23 #[.int .i64 ka, .int .i64 kb, .int .i64 kc]) := Lib.hid (KK_3.out.below hbw_4 KK_3.out.lt)
      have KL_4 : Hid (Below w_2.heap.size w_2 w_4) := Lib.hid (bthen KL_2.out hbw_4 KL_2.out.size)
      have QB_4 : Hid (Below w.heap.size w w_4) := Lib.hid (bthen QB_3.out hbw_4 QB_3.out.size)
      have sz_4 : wo.heap.size + 1 ≤ w_4.heap.size := by rw [sqw_4]; exact Nat.le_refl _
      have KT_4 : Hid (Blk' w_4 (wo.heap.size) 28 #[.int .i64 tk, .int .i64 tf, .int .i64 tt]) := Lib.hid (by rw [hww_4]; exact Blk'.new wo _ _)
      have HWw_4 := Lib.hid hww_4
      have SQw_4 := Lib.hid sqw_4
      clear hww_4 hbw_4 sqw_4
      clear KE_3 KK_3 QB_3
      go_upto_region 9 with (fail)
      rw [← HWw_4.out]
      clear c0 c1 c2 c2'
      have cT_4_0 : w_4.cell? ⟨wo.heap.size, 0, none⟩ = some (.int .i64 tk) := KT_4.out.cell 0
      have cT_4_1 : w_4.cell? ⟨wo.heap.size, 1, none⟩ = some (.int .i64 tf) := KT_4.out.cell 1
      have cT_4_2 : w_4.cell? ⟨wo.heap.size, 2, none⟩ = some (.int .i64 tt) := KT_4.out.cell 2
      have zT_4 : wo.heap.size < w_4.heap.size := KT_4.out.lt
      by_cases hb1 : tf < last
      · go_wp2
        go_ret
        exact ⟨by rw [HL.out, HEq.out, HD.out, checkT_bad (badT_one (.inl hb1)) (by decide)]; rfl, QB_4.out⟩
      by_cases hb2 : tt ≤ tf
      · go_wp2
        go_ret
        exact ⟨by rw [HL.out, HEq.out, HD.out, checkT_bad (badT_one (.inr (.inl hb2))) (by decide)]; rfl, QB_4.out⟩
      by_cases hb3 : (s.size : Int) < tt
      · go_wp2
        go_ret
        exact ⟨by rw [HL.out, HEq.out, HD.out, checkT_bad (badT_one (.inr (.inr hb3))) (by decide)]; rfl, QB_4.out⟩
      have HBd : Hid (badT s.size ⟨ka, kb, kc⟩ last ⟨tk, tf, tt⟩ = if isK ⟨ka, kb, kc⟩ tk then 3 else 0) := Lib.hid (by unfold badT; dsimp only; rw [if_neg (by omega)])
      have HNx : Hid (¬ tt < 0 → True) := Lib.hid (fun _ => trivial)
      have HKe : Hid (Els w_4 (fun b => b = w.heap.size) [ka, kb, kc] (some ⟨w.heap.size, 0, none⟩)) := Lib.hid (els_of_blk [[.int .i64 ka], [.int .i64 kb], [.int .i64 kc]] KK_4.out rfl rfl (fun i x cs hi hc => by
        match i, hi, hc with
        | 0, hi, hc => simp at hi hc; subst hi; subst hc; exact ⟨rfl, HK.out.1⟩
        | 1, hi, hc => simp at hi hc; subst hi; subst hc; exact ⟨rfl, HK.out.2.1⟩
        | 2, hi, hc => simp at hi hc; subst hi; subst hc; exact ⟨rfl, HK.out.2.2⟩) rfl)
      go_wp2_with fail
      go_still_tail 3, (by kernel_rfl)
      change wpList _ _ _ _ _ w_4.drew
      go_wp2_with fail
      refine (containsInt_any (some ⟨w.heap.size, 0, none⟩) 3 3 [ka, kb, kc] tk (fun b => b = w.heap.size) w_4.drew rfl (by simp) (HKe.out.below (Below.refl _ _).drew)).mono ?_
      rintro e w_5 ⟨rfl, rfl⟩
      rw [HM.out]
      obtain ⟨Q, hQ⟩ : ∃ Q, Q = isK ⟨ka, kb, kc⟩ tk := ⟨_, rfl⟩
      rw [← hQ]
      rw [← hQ] at HBd
      clear hQ HM
      cases Q
      · go_wp2
        go_roundw
        case rel => exact ⟨j + 1, tt, hlt, by go_num, rfl, HTi.out.2.2, by rw [HEq.out, HD.out, checkT_ok HBd.out], KL_4.out.drew⟩
        case measure => simp [intOf]; omega
      · go_wp2
        go_ret
        exact ⟨by rw [HL.out, HEq.out, HD.out, checkT_bad HBd.out (by decide)]; rfl, (QB_4.out).drew⟩
    · go_wp2
      go_ret
      exact ⟨by rw [HL.out, HEq.out, List.drop_of_length_le (by omega)]; rfl, bthen QB_2.out hb QB_2.out.size⟩
end Go.Proofs.Ytabehgggahnopaa
