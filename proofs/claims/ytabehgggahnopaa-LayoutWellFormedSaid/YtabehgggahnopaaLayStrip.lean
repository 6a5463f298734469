/- Contract: layout.Strip. -/
import Derived.Test.YtabehgggahnopaaLayB
namespace Go.Proofs.Ytabehgggahnopaa
open Go.RowKit
set_option linter.unusedVariables false

def StL (l : List Tok) (k : K3) (w1 : World) (base : Nat) (v i : Value) (wr : World) : Prop :=
  ∃ j : Nat, j ≤ l.length ∧ i = .int .i64 j ∧ Own wr (fun _ => False) base 28 v (stripL k (l.take j)) ∧ Below w1.heap.size w1 wr
theorem strip_len (k : K3) (l : List Tok) (j : Nat) : (stripL k (l.take j)).length ≤ l.length := by
  unfold stripL
  exact Nat.le_trans (List.length_filter_le _ _) (by rw [List.length_take]; omega)

set_option maxRecDepth 100000 in
set_option maxHeartbeats 8000000 in
theorem strip_any (l : List Tok) (k : K3) (A : Option Addr) (c : Nat) (S : Nat → Prop) (w : World) (hk : I64 k.k0 ∧ I64 k.k1 ∧ I64 k.k2) (hl : l.length ≤ 1000000) (hlc : l.length ≤ c) (hc : c ≤ 9223372036854775807) (hA : Els w S l A) (hS : ∀ b, S b → b < w.heap.size) :
    Calls Try.prog 10 #[.slice A l.length c, .agg #[.int .i64 k.k0, .int .i64 k.k1, .int .i64 k.k2]] w (RetOwn w (fun _ => False) 28 (stripL k l)) := by
  have HK := Lib.hid hk
  have HS := Lib.hid hS
  have HM := Lib.hid (fun z => isK_mem k z)
  have HLen := Lib.hid (strip_len k l)
  obtain ⟨ka, kb, kc⟩ := k
  dsimp only at *
  clear hk
  have KE_0 : Hid (Els w S l A) := Lib.hid (hA)
  clear hA hS
  obtain ⟨w_1, hww_1⟩ : ∃ w_1 : World, w_1 = w.alloc (.cells #[.int .i64 ka, .int .i64 kb, .int .i64 kc] 23) := ⟨_, rfl⟩
  have hbw_1 : Below w.heap.size w w_1 := by rw [hww_1]; exact (Below.refl _ _).alloc (by first | exact Nat.le_refl _ | (simp; done) | (simp; omega)) _
  have sqw_1 : w_1.heap.size = w.heap.size + 1 := by rw [hww_1]; simp
  have KE_1 : Hid (Els w_1 S l A) := Lib.hid (KE_0.out.below hbw_1)
  have QB_1 : Hid (Below w.heap.size w w_1) := Lib.hid (hbw_1)
  have sz_1 : w.heap.size + 1 ≤ w_1.heap.size := by rw [sqw_1]; exact Nat.le_refl _
  have KK_1 : Hid (Blk' w_1 (w.heap.size) 23 #[.int .i64 ka, .int .i64 kb, .int .i64 kc]) := Lib.hid (by rw [hww_1]; exact Blk'.new w _ _)
  have HWw_1 := Lib.hid hww_1
  have SQw_1 := Lib.hid sqw_1
  clear hww_1 hbw_1 sqw_1
  clear KE_0
  go_enter Try.func10, Try.ntmps10
  go_upto_region 1 with (fail)
  rw [← HWw_1.out]
  go_wp2_with fail
  go_loopw [5, 10] (fun v i wr => StL l ⟨ka, kb, kc⟩ w_1 w_1.heap.size v i wr) (fun _ i _ => l.length - (intOf i).toNat)
  case atStart => exact ⟨0, Nat.zero_le _, rfl, Own.nil _ _ _ _, Below.refl _ _⟩
  case round =>
    obtain ⟨wo, hwo⟩ : ∃ wo : World, wo = wr := ⟨_, rfl⟩
    subst hwo
    obtain ⟨j, hj, rfl, hown, hb⟩ := hrel
    obtain ⟨Av, cv, rfl, hcv1, hcv2, _⟩ := hown.form
    obtain ⟨R, hR⟩ : ∃ R, R = stripL ⟨ka, kb, kc⟩ (l.take j) := ⟨_, rfl⟩
    rw [← hR] at hown hcv1
    have hRl : R.length ≤ l.length := by rw [hR]; exact HLen.out j
    have HR := Lib.hid hR
    rw [← hR]
    clear hR
    by_cases hlt : j < l.length
    · skip
      obtain ⟨t, ht⟩ := get_some hlt
      have hj0 : (0 : Int) ≤ (j : Int) := by omega
      have KE_2 : Hid (Els wo S l A) := Lib.hid (KE_1.out.below hb)
      have KK_2 : Hid (Blk' wo (w.heap.size) 23 #[.int .i64 ka, .int .i64 kb, .int .i64 kc]) := Lib.hid (KK_1.out.below hb KK_1.out.lt)
      have QB_2 : Hid (Below w.heap.size w wo) := Lib.hid (bthen QB_1.out hb QB_1.out.size)
      have sz_2 : w_1.heap.size ≤ wo.heap.size := (hb).size
      have HOw := Lib.hid hown
      have HLb := Lib.hid hb
      clear hb hown
      clear KE_1 KK_1 QB_1
      obtain ⟨b, o, rfl, hSb, hbs, ti0, ti1, ti2, c0, c1, c2, c2'⟩ := KE_2.out.tok ht
      obtain ⟨tk, tf, tt⟩ := t
      dsimp only at ti0 ti1 ti2 c0 c1 c2 c2'
      have HTi := Lib.hid (And.intro ti0 (And.intro ti1 ti2))
      have HTs : Hid (stripL ⟨ka, kb, kc⟩ (l.take (j + 1)) = if isK ⟨ka, kb, kc⟩ tk then R else R ++ [⟨tk, tf, tt⟩]) := Lib.hid (by
        rw [take_snoc ht, HR.out]
        split
        · rename_i h; exact stripL_out (t := ⟨tk, tf, tt⟩) h
        · rename_i h; exact stripL_in (t := ⟨tk, tf, tt⟩) (by simpa using h))
      clear ht ti0 ti1 ti2
      obtain ⟨w_3, hww_3⟩ : ∃ w_3 : World, w_3 = wo.alloc (.cells #[.int .i64 tk, .int .i64 tf, .int .i64 tt] 28) := ⟨_, rfl⟩
      have hbw_3 : Below wo.heap.size wo w_3 := by rw [hww_3]; exact (Below.refl _ _).alloc (by first | exact Nat.le_refl _ | (simp; done) | (simp; omega)) _
      have sqw_3 : w_3.heap.size = wo.heap.size + 1 := by rw [hww_3]; simp
      have KK_3 : Hid (Blk' w_3 (w.heap.size) 23 #[.int .i64 ka, .int .i64 kb, .int .i64 kc]) := Lib.hid (KK_2.out.below hbw_3 KK_2.out.lt)
      have QB_3 : Hid (Below w.heap.size w w_3) := Lib.hid (bthen QB_2.out hbw_3 QB_2.out.size)
      have sz_3 : wo.heap.size + 1 ≤ w_3.heap.size := by rw [sqw_3]; exact Nat.le_refl _
      have KT_3 : Hid (Blk' w_3 (wo.heap.size) 28 #[.int .i64 tk, .int .i64 tf, .int .i64 tt]) := Lib.hid (by rw [hww_3]; exact Blk'.new wo _ _)
      have HWw_3 := Lib.hid hww_3
      have SQw_3 := Lib.hid sqw_3
      clear hww_3 hbw_3 sqw_3
      clear KK_2 QB_2
      have HOw3 := Lib.hid (HOw.out.below (by have h := QB_3.out; exact (by rw [HWw_3.out]; exact (Below.refl _ _).alloc (Nat.le_refl _) _ : Below wo.heap.size wo w_3)) (Nat.le_refl _))
      have HLb3 : Hid (Below w_1.heap.size w_1 w_3) := Lib.hid (bthen HLb.out (by rw [HWw_3.out]; exact (Below.refl _ _).alloc (Nat.le_refl _) _ : Below wo.heap.size wo w_3) HLb.out.size)
      go_upto_region 5 with (fail)
      rw [← HWw_3.out]
      clear c0 c1 c2 c2'
      have cT_3_0 : w_3.cell? ⟨wo.heap.size, 0, none⟩ = some (.int .i64 tk) := KT_3.out.cell 0
      have cT_3_1 : w_3.cell? ⟨wo.heap.size, 1, none⟩ = some (.int .i64 tf) := KT_3.out.cell 1
      have cT_3_2 : w_3.cell? ⟨wo.heap.size, 2, none⟩ = some (.int .i64 tt) := KT_3.out.cell 2
      have zT_3 : wo.heap.size < w_3.heap.size := KT_3.out.lt
      have cK_3_0 : w_3.cell? ⟨w.heap.size, 0, none⟩ = some (.int .i64 ka) := KK_3.out.cell 0
      have cK_3_1 : w_3.cell? ⟨w.heap.size, 1, none⟩ = some (.int .i64 kb) := KK_3.out.cell 1
      have cK_3_2 : w_3.cell? ⟨w.heap.size, 2, none⟩ = some (.int .i64 kc) := KK_3.out.cell 2
      have zK_3 : w.heap.size < w_3.heap.size := KK_3.out.lt
      have HKe : Hid (Els w_3 (fun b => b = w.heap.size) [ka, kb, kc] (some ⟨w.heap.size, 0, none⟩)) := Lib.hid (els_of_blk [[.int .i64 ka], [.int .i64 kb], [.int .i64 kc]] KK_3.out rfl rfl (fun i x cs hi hc => by
        match i, hi, hc with
        | 0, hi, hc => simp at hi hc; subst hi; subst hc; exact ⟨rfl, HK.out.1⟩
        | 1, hi, hc => simp at hi hc; subst hi; subst hc; exact ⟨rfl, HK.out.2.1⟩
        | 2, hi, hc => simp at hi hc; subst hi; subst hc; exact ⟨rfl, HK.out.2.2⟩) rfl)
      go_wp2_with fail
      go_still_tail 3, (by kernel_rfl)
      change wpList _ _ _ _ _ w_3.drew
      go_wp2_with fail
      refine (containsInt_any (some ⟨w.heap.size, 0, none⟩) 3 3 [ka, kb, kc] tk (fun b => b = w.heap.size) w_3.drew rfl (by simp) (HKe.out.below (Below.refl _ _).drew)).mono ?_
      rintro e w_5 ⟨rfl, rfl⟩
      rw [HM.out]
      obtain ⟨Q, hQ⟩ : ∃ Q, Q = isK ⟨ka, kb, kc⟩ tk := ⟨_, rfl⟩
      rw [← hQ]
      rw [← hQ] at HTs
      clear hQ
      cases Q
      · skip
        have HRd : Hid (Dat.rd ((w_3.drew).alloc (.cells #[.int .i64 tk, .int .i64 tf, .int .i64 tt] 28)) (OwnT (fun _ => False) w_1.heap.size (.slice Av R.length cv) ((w_3.drew).alloc (.cells #[.int .i64 tk, .int .i64 tf, .int .i64 tt] 28))) (⟨tk, tf, tt⟩ : Tok) [.int .i64 tk, .int .i64 tf, .int .i64 tt]) := Lib.hid ⟨rfl, HTi.out⟩
        have HOa := Lib.hid (HOw3.out.drew.alloc (.cells #[.int .i64 tk, .int .i64 tf, .int .i64 tt] 28))
        have hcap1 : (R.length + 1) * 24 ≤ 140737488355328 := by omega
        have hcap2 : R.length + 1 ≤ 9223372036854775807 := by omega
        have hzz : w_1.heap.size ≤ ((w_3.drew).alloc (.cells #[.int .i64 tk, .int .i64 tf, .int .i64 tt] 28)).heap.size := by have := HLb3.out.size; simp; omega
        go_wp2_with ((at_builtin); (refine wpList_own1 _ rfl _ _ elemTok rfl rfl HOa.out ⟨tk, tf, tt⟩ [.int .i64 tk, .int .i64 tf, .int .i64 tt] rfl (At.new _ _ _) HRd.out hcap1 hcap2 hzz ?_); (intro v' w9 hown9 hg9 hat9); (obtain ⟨A9, k9, hv9, _⟩ := hown9.form); (rw [snoc_len] at hv9); (subst hv9); (have H9 := Lib.hid (And.intro hown9 (And.intro hg9 hat9))); (clear hown9 hg9 hat9))
        go_roundw
        case rel =>
          obtain ⟨hown9, hg9, hat9⟩ := H9.out
          refine ⟨j + 1, hlt, by go_num, ?_, ?_⟩
          · rw [HTs.out, if_neg (by decide)]; exact hown9
          · exact bgrown (HLb3.out.drew.alloc (by have := HLb3.out.size; exact this) _) hg9 HOa.out (Nat.le_refl _) hzz
        case measure => simp [intOf]; omega
      · skip
        go_wp2
        go_roundw
        case rel => exact ⟨j + 1, hlt, by go_num, by rw [HTs.out]; exact HOw3.out.drew, HLb3.out.drew⟩
        case measure => simp [intOf]; omega
    · skip
      go_wp2
      go_ret
      refine ⟨_, rfl, ?_, ?_⟩
      · have e : R = stripL ⟨ka, kb, kc⟩ l := by rw [HR.out, List.take_of_length_le (by omega)]
        rw [← e]
        exact hown.base (by omega)
      · exact bthen QB_1.out hb QB_1.out.size
end Go.Proofs.Ytabehgggahnopaa
