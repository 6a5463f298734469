/- The law LayoutWellFormed: the walk. -/
import Derived.Test.YtabehgggahnopaaLayLn
import Derived.Test.YtabehgggahnopaaLayTok
import Derived.Test.YtabehgggahnopaaLayStrip
namespace Go.Proofs.Ytabehgggahnopaa
open Go.RowKit
set_option linter.unusedVariables false

theorem aTok (A : ByteArray) (hA : A.size = 1) : tokensL A [⟨3, 0, 1⟩] ⟨0, 1, 2⟩ = ([⟨3, 0, 1⟩, ⟨2, 1, 1⟩], 0) := by
  have hb : badT A.size ⟨0, 1, 2⟩ 0 ⟨3, 0, 1⟩ = 0 := by
    unfold badT
    rw [if_neg (by rintro (h | h | h) <;> dsimp only at h <;> omega), if_neg (by decide)]
  have hc : checkL A [⟨3, 0, 1⟩] ⟨0, 1, 2⟩ = 0 := by
    unfold checkL
    rw [if_neg (by rintro (h | h); omega; simp at h), if_neg (by decide)]
    show (if _ ≠ 0 then _ else _) = _
    rw [hb, if_neg (by decide)]; rfl
  unfold tokensL
  rw [hc, if_neg (by decide)]
  have hs : tokStep A ⟨0, 1, 2⟩ none [] [0] ⟨3, 0, 1⟩ = .inl ([⟨3, 0, 1⟩], [0]) := by rfl
  unfold tokR
  rw [tokRun, hs]
  rfl
theorem tokensL_bad {k : K3} {s : ByteArray} {l : List Tok} (h : (tokensL s l k).2 ≠ 0) : (tokensL s l k).1 = [] := by
  unfold tokensL at h ⊢
  by_cases hc : checkL s l k ≠ 0
  · rw [if_pos hc]
  · rw [if_neg hc] at h ⊢
    unfold tokR at h ⊢
    split
    · rfl
    · rename_i r hr
      rw [hr] at h
      exact absurd rfl h
def WfL (k : K3) (o : List Tok) (w4 : World) (i mv : Value) (wr : World) : Prop :=
  ∃ (j : Nat) (m : Int), j ≤ o.length ∧ i = .int .i64 j ∧ mv = .int .i64 m ∧ 0 ≤ m ∧ m ≤ j ∧ cnt k m (kindsT (o.drop j)) = some 0 ∧ Below w4.heap.size w4 wr

set_option maxRecDepth 100000 in
set_option maxHeartbeats 8000000 in
theorem layoutWellFormed_any (s : ByteArray) (l : List Tok) (k : K3) (A : Option Addr) (c : Nat) (S : Nat → Prop) (w : World) (hs : s.size ≤ 9223372036854775807) (hk : I64 k.k0 ∧ I64 k.k1 ∧ I64 k.k2) (hlc : l.length ≤ c) (hc : c ≤ 9223372036854775807) (hA : Els w S l A) (hS : ∀ b, S b → b < w.heap.size) :
    Calls Try.prog 3 #[.string s, .slice A l.length c, .agg #[.int .i64 k.k0, .int .i64 k.k1, .int .i64 k.k2]] w fun e w' => e = .returned (.bool true) ∧ Below w.heap.size w w' := by
  have HK := Lib.hid hk
  have HS := Lib.hid hS
  have hl9 : l.length ≤ 9223372036854775807 := by omega
  obtain ⟨o, ho⟩ : ∃ o, o = (tokensL s l k).1 := ⟨_, rfl⟩
  obtain ⟨E, hE⟩ : ∃ E, E = (tokensL s l k).2 := ⟨_, rfl⟩
  have HT : Hid (tokensL s l k = (o, E)) := Lib.hid (by rw [ho, hE])
  have HG : Hid (E = 0 → cnt k 0 (kindsT o) = some 0 ∧ (linesL o k).2 = 0 ∧ stripL k o = l ∧ o.length ≤ 1600) := Lib.hid (fun h => by rw [ho]; exact tokensL_good (by rw [← hE]; exact h))
  have HE0 : Hid (E ≠ 0 → o = []) := Lib.hid (fun h => by rw [ho]; exact tokensL_bad (by rw [← hE]; exact h))
  obtain ⟨LR, hLR⟩ : ∃ LR, LR = linesL o k := ⟨_, rfl⟩
  have HLR := Lib.hid hLR
  obtain ⟨ST, hST⟩ : ∃ ST, ST = stripL k o := ⟨_, rfl⟩
  have HST := Lib.hid hST
  obtain ⟨ka, kb, kc⟩ := k
  dsimp only at *
  clear hk ho hE hLR hST
  have KE_0 : Hid (Els w S l A) := Lib.hid (hA)
  clear hA hS
  obtain ⟨w_1, hww_1⟩ : ∃ w_1 : World, w_1 = (w.alloc (.cells #[.int .i64 ka, .int .i64 kb, .int .i64 kc] 23)).alloc (.cells #[.int .i64 3, .int .i64 0, .int .i64 1] 28) := ⟨_, rfl⟩
  have hbw_1 : Below w.heap.size w w_1 := by rw [hww_1]; exact ((Below.refl _ _).alloc (by first | exact Nat.le_refl _ | (simp; done) | (simp; omega)) _).alloc (by first | exact Nat.le_refl _ | (simp; done) | (simp; omega)) _
  have sqw_1 : w_1.heap.size = w.heap.size + 1 + 1 := by rw [hww_1]; simp
  have KE_1 : Hid (Els w_1 S l A) := Lib.hid (KE_0.out.below hbw_1)
  have QB_1 : Hid (Below w.heap.size w w_1) := Lib.hid (hbw_1)
  have sz_1 : w.heap.size + 1 + 1 ≤ w_1.heap.size := by rw [sqw_1]; exact Nat.le_refl _
  have KK_1 : Hid (Blk' w_1 (w.heap.size) 23 #[.int .i64 ka, .int .i64 kb, .int .i64 kc]) := Lib.hid (by rw [hww_1]; exact (Blk'.new w _ _).alloc _)
  have KX_1 : Hid (Blk' w_1 (w.heap.size + 1) 28 #[.int .i64 3, .int .i64 0, .int .i64 1]) := Lib.hid (by rw [hww_1]; exact Blk'.new' (g := w.heap.size + 1) _ _ _ (by simp))
  have HWw_1 := Lib.hid hww_1
  have SQw_1 := Lib.hid sqw_1
  clear hww_1 hbw_1 sqw_1
  clear KE_0
  go_enter Try.func3, Try.ntmps3
  go_wp2_with fail
  rw [← HWw_1.out]
  have HX : Hid (Els w_1 (fun b => b = w.heap.size + 1) ([⟨3, 0, 1⟩] : List Tok) (some ⟨w.heap.size + 1, 0, none⟩)) := Lib.hid (els_of_blk [[.int .i64 3, .int .i64 0, .int .i64 1]] KX_1.out rfl rfl (rd_one ⟨rfl, (by show I64 3; unfold I64; omega), (by show I64 0; unfold I64; omega), (by show I64 1; unfold I64; omega)⟩) rfl)
  refine (tokens_any _ [⟨3, 0, 1⟩] ⟨0, 1, 2⟩ _ 1 _ w_1 (by decide) (by show I64 0 ∧ I64 1 ∧ I64 2; unfold I64; omega) (by simp) (by omega) HX.out (fun b (hb : b = w.heap.size + 1) => by omega)).mono ?_
  rintro e w_2 ⟨Ax, cx, he, hlx, hcx, hEx, hbz⟩
  rw [aTok _ rfl] at he hlx hEx
  dsimp only at he hlx
  subst he
  clear hEx
  have KE_2 : Hid (Els w_2 S l A) := Lib.hid (KE_1.out.below hbz)
  have KK_2 : Hid (Blk' w_2 (w.heap.size) 23 #[.int .i64 ka, .int .i64 kb, .int .i64 kc]) := Lib.hid (KK_1.out.below hbz KK_1.out.lt)
  have KX_2 : Hid (Blk' w_2 (w.heap.size + 1) 28 #[.int .i64 3, .int .i64 0, .int .i64 1]) := Lib.hid (KX_1.out.below hbz KX_1.out.lt)
  have QB_2 : Hid (Below w.heap.size w w_2) := Lib.hid (bthen QB_1.out hbz QB_1.out.size)
  have sz_2 : w_1.heap.size ≤ w_2.heap.size := (hbz).size
  clear hbz
  clear KE_1 KK_1 KX_1 QB_1
  have hx2 : ¬ ((2 : Int) != 2) = true := by decide
  have cK_2_0 : w_2.cell? ⟨w.heap.size, 0, none⟩ = some (.int .i64 ka) := KK_2.out.cell 0
  have cK_2_1 : w_2.cell? ⟨w.heap.size, 1, none⟩ = some (.int .i64 kb) := KK_2.out.cell 1
  have cK_2_2 : w_2.cell? ⟨w.heap.size, 2, none⟩ = some (.int .i64 kc) := KK_2.out.cell 2
  have zK_2 : w.heap.size < w_2.heap.size := KK_2.out.lt
  go_wp2_with fail
  refine (tokens_any s l ⟨ka, kb, kc⟩ A c S w_2 hs HK.out hlc hc KE_2.out (fun b hb => by have := HS.out b hb; omega)).mono ?_
  rintro e w_3 ⟨Ao, co, he, hlo, hco, hEo, hbz⟩
  rw [HT.out] at he hlo hEo
  dsimp only at he hlo hEo
  subst he
  clear cK_2_0 cK_2_1 cK_2_2 zK_2
  have KE_3 : Hid (Els w_3 S l A) := Lib.hid (KE_2.out.below hbz)
  have KK_3 : Hid (Blk' w_3 (w.heap.size) 23 #[.int .i64 ka, .int .i64 kb, .int .i64 kc]) := Lib.hid (KK_2.out.below hbz KK_2.out.lt)
  have KX_3 : Hid (Blk' w_3 (w.heap.size + 1) 28 #[.int .i64 3, .int .i64 0, .int .i64 1]) := Lib.hid (KX_2.out.below hbz KX_2.out.lt)
  have QB_3 : Hid (Below w.heap.size w w_3) := Lib.hid (bthen QB_2.out hbz QB_2.out.size)
  have sz_3 : w_2.heap.size ≤ w_3.heap.size := (hbz).size
  clear hbz
  clear KE_2 KK_2 KX_2 QB_2
  have KO_3 : Hid (Els w_3 (fun b => b < w_3.heap.size) o Ao) := Lib.hid (hEo.keep (fun _ _ _ => rfl) (fun _ h => h.2))
  clear hEo
  by_cases hE0 : E = 0
  rotate_left
  · have h0 : o.length = 0 := by rw [HE0.out hE0]; rfl
    have h1 : (o.length : Int) = 0 := by omega
    go_wp2
    go_ret
    exact ⟨ret_bool (by simp [h0]), QB_3.out⟩
  subst hE0
  obtain ⟨g1, g2, g3, g4⟩ := HG.out rfl
  have HG1 := Lib.hid (And.intro g1 (And.intro g2 g3))
  clear g1 g2 g3
  go_wp2_with fail
  go_loopw [11, 44] (fun mv i wr => WfL ⟨ka, kb, kc⟩ o w_3 i mv wr) (fun _ i _ => o.length - (intOf i).toNat)
  case atStart => exact ⟨0, 0, Nat.zero_le _, rfl, rfl, by omega, by omega, HG1.out.1, Below.refl _ _⟩
  case round =>
    obtain ⟨wo, hwo⟩ : ∃ wo : World, wo = wr := ⟨_, rfl⟩
    subst hwo
    obtain ⟨j, m, hj, rfl, rfl, hm0, hmj, hcn, hb⟩ := hrel
    have HCn := Lib.hid hcn
    have HLb := Lib.hid hb
    clear hcn
    have KE_4 : Hid (Els wo S l A) := Lib.hid (KE_3.out.below hb)
    have KK_4 : Hid (Blk' wo (w.heap.size) 23 #[.int .i64 ka, .int .i64 kb, .int .i64 kc]) := Lib.hid (KK_3.out.below hb KK_3.out.lt)
    have KX_4 : Hid (Blk' wo (w.heap.size + 1) 28 #[.int .i64 3, .int .i64 0, .int .i64 1]) := Lib.hid (KX_3.out.below hb KX_3.out.lt)
    have KO_4 : Hid (Els wo (fun b => b < w_3.heap.size) o Ao) := Lib.hid (KO_3.out.below hb)
    have QB_4 : Hid (Below w.heap.size w wo) := Lib.hid (bthen QB_3.out hb QB_3.out.size)
    have sz_4 : w_3.heap.size ≤ wo.heap.size := (hb).size
    clear hb
    clear KE_3 KK_3 KX_3 KO_3 QB_3
    by_cases hlt : j < o.length
    · skip
      obtain ⟨t, ht⟩ := get_some hlt
      have hj0 : (0 : Int) ≤ (j : Int) := by omega
      obtain ⟨b, ob, rfl, hSb, hbs, ti0, ti1, ti2, c0, c1, c2, c2'⟩ := KO_4.out.tok ht
      obtain ⟨tk, tf, tt⟩ := t
      dsimp only at ti0 ti1 ti2 c0 c1 c2 c2'
      have HD : Hid (kindsT (o.drop j) = tk :: kindsT (o.drop (j + 1))) := Lib.hid (by rw [drop_cons ht]; rfl)
      obtain ⟨m2, hm2⟩ : ∃ m2, m2 = cntStep ⟨ka, kb, kc⟩ m tk := ⟨_, rfl⟩
      have hc2 : 0 ≤ m2 ∧ cnt ⟨ka, kb, kc⟩ m2 (kindsT (o.drop (j + 1))) = some 0 := by
        have h := HCn.out
        rw [HD.out, cnt, ← hm2] at h
        split at h
        · cases h
        · exact ⟨by omega, h⟩
      have hm2j : m2 ≤ (j + 1 : Nat) := by
        rw [hm2]; unfold cntStep; split
        · omega
        · split <;> omega
      have HM2 := Lib.hid hc2.2
      have hm20 := hc2.1
      have HMe : Hid (m2 = if tk = ka then m + 1 else if tk = kb then m - 1 else m) := Lib.hid (by rw [hm2]; rfl)
      have hw1 : IntKind.i64.wrap (m + 1) = m + 1 := IntWalk.i64_in _ (by omega)
      have hw2 : IntKind.i64.wrap (m - 1) = m - 1 := IntWalk.i64_in _ (by omega)
      have HW12 := Lib.hid (And.intro hw1 hw2)
      have hmj' : m ≤ (j : Int) := hmj
      clear hc2 hm2 hw1 hw2 ht ti0 ti1 ti2
      obtain ⟨w_5, hww_5⟩ : ∃ w_5 : World, w_5 = wo.alloc (.cells #[.int .i64 tk, .int .i64 tf, .int .i64 tt] 28) := ⟨_, rfl⟩
      have hbw_5 : Below wo.heap.size wo w_5 := by rw [hww_5]; exact (Below.refl _ _).alloc (by first | exact Nat.le_refl _ | (simp; done) | (simp; omega)) _
      have sqw_5 : w_5.heap.size = wo.heap.size + 1 := by rw [hww_5]; simp
      have KE_5 : Hid (Els w_5 S l A) := Lib.hid (KE_4.out.below hbw_5)
      have KK_5 : Hid (Blk' w_5 (w.heap.size) 23 #[.int .i64 ka, .int .i64 kb, .int .i64 kc]) := Lib.hid (KK_4.out.below hbw_5 KK_4.out.lt)
      have KX_5 : Hid (Blk' w_5 (w.heap.size + 1) 28 #[.int .i64 3, .int .i64 0, .int .i64 1]) := Lib.hid (KX_4.out.below hbw_5 KX_4.out.lt)
      have QB_5 : Hid (Below w.heap.size w w_5) := Lib.hid (bthen QB_4.out hbw_5 QB_4.out.size)
      have sz_5 : wo.heap.size + 1 ≤ w_5.heap.size := by rw [sqw_5]; exact Nat.le_refl _
      have KT_5 : Hid (Blk' w_5 (wo.heap.size) 28 #[.int .i64 tk, .int .i64 tf, .int .i64 tt]) := Lib.hid (by rw [hww_5]; exact Blk'.new wo _ _)
      have HWw_5 := Lib.hid hww_5
      have SQw_5 := Lib.hid sqw_5
      clear hww_5 hbw_5 sqw_5
      clear KE_4 KK_4 KX_4 QB_4
      have HLb4 : Hid (Below w_3.heap.size w_3 w_5) := Lib.hid (bthen HLb.out (by rw [HWw_5.out]; exact (Below.refl _ _).alloc (Nat.le_refl _) _ : Below wo.heap.size wo w_5) HLb.out.size)
      go_upto_region 11 with (fail)
      rw [← HWw_5.out]
      clear c0 c1 c2 c2'
      have cT_5_0 : w_5.cell? ⟨wo.heap.size, 0, none⟩ = some (.int .i64 tk) := KT_5.out.cell 0
      have cT_5_1 : w_5.cell? ⟨wo.heap.size, 1, none⟩ = some (.int .i64 tf) := KT_5.out.cell 1
      have cT_5_2 : w_5.cell? ⟨wo.heap.size, 2, none⟩ = some (.int .i64 tt) := KT_5.out.cell 2
      have zT_5 : wo.heap.size < w_5.heap.size := KT_5.out.lt
      have cK_5_0 : w_5.cell? ⟨w.heap.size, 0, none⟩ = some (.int .i64 ka) := KK_5.out.cell 0
      have cK_5_1 : w_5.cell? ⟨w.heap.size, 1, none⟩ = some (.int .i64 kb) := KK_5.out.cell 1
      have cK_5_2 : w_5.cell? ⟨w.heap.size, 2, none⟩ = some (.int .i64 kc) := KK_5.out.cell 2
      have zK_5 : w.heap.size < w_5.heap.size := KK_5.out.lt
      by_cases q1 : tk = ka
      · subst q1
        have he : m2 = m + 1 := by rw [HMe.out, if_pos rfl]
        subst he
        have hw1 := HW12.out.1
        have hn : ¬ m + 1 < 0 := by omega
        go_wp2
        go_roundw
        case rel => exact ⟨j + 1, m + 1, hlt, by go_num, rfl, hm20, by omega, HM2.out, HLb4.out⟩
        case measure => simp [intOf]; omega
      have q1' : (tk == ka) = false := by simp [q1]
      by_cases q2 : tk = kb
      · subst q2
        have he : m2 = m - 1 := by rw [HMe.out, if_neg q1, if_pos rfl]
        subst he
        have hw1 := HW12.out.2
        have hn : ¬ m - 1 < 0 := by omega
        go_wp2
        go_roundw
        case rel => exact ⟨j + 1, m - 1, hlt, by go_num, rfl, hm20, by omega, HM2.out, HLb4.out⟩
        case measure => simp [intOf]; omega
      have q2' : (tk == kb) = false := by simp [q2]
      have he : m2 = m := by rw [HMe.out, if_neg q1, if_neg q2]
      subst he
      have hn : ¬ m2 < 0 := by omega
      go_wp2
      go_roundw
      case rel => exact ⟨j + 1, m2, hlt, by go_num, rfl, hm20, by omega, HM2.out, HLb4.out⟩
      case measure => simp [intOf]; omega
    · skip
      have hm : m = 0 := by
        have h := HCn.out
        rw [List.drop_of_length_le (by omega)] at h
        simpa [kindsT, cnt] using h
      subst hm
      have cK_4_0 : wo.cell? ⟨w.heap.size, 0, none⟩ = some (.int .i64 ka) := KK_4.out.cell 0
      have cK_4_1 : wo.cell? ⟨w.heap.size, 1, none⟩ = some (.int .i64 kb) := KK_4.out.cell 1
      have cK_4_2 : wo.cell? ⟨w.heap.size, 2, none⟩ = some (.int .i64 kc) := KK_4.out.cell 2
      have zK_4 : w.heap.size < wo.heap.size := KK_4.out.lt
      go_wp2_with fail
      refine (lines_any o ⟨ka, kb, kc⟩ Ao co _ wo HK.out hlo hco KO_4.out (fun b hb => by have h9 : b < w_3.heap.size := hb; omega)).mono ?_
      rintro e w_5 ⟨Al, cl, he, hll, hcl, hEl, hbz⟩
      rw [← HLR.out] at he hll
      clear hEl
      subst he
      have hl0 : LR.2 = 0 := by rw [HLR.out]; exact HG1.out.2.1
      rw [hl0]
      clear hll
      clear cK_4_0 cK_4_1 cK_4_2 zK_4
      have KE_5 : Hid (Els w_5 S l A) := Lib.hid (KE_4.out.below hbz)
      have KK_5 : Hid (Blk' w_5 (w.heap.size) 23 #[.int .i64 ka, .int .i64 kb, .int .i64 kc]) := Lib.hid (KK_4.out.below hbz KK_4.out.lt)
      have KX_5 : Hid (Blk' w_5 (w.heap.size + 1) 28 #[.int .i64 3, .int .i64 0, .int .i64 1]) := Lib.hid (KX_4.out.below hbz KX_4.out.lt)
      have KO_5 : Hid (Els w_5 (fun b => b < w_3.heap.size) o Ao) := Lib.hid (KO_4.out.below hbz)
      have QB_5 : Hid (Below w.heap.size w w_5) := Lib.hid (bthen QB_4.out hbz QB_4.out.size)
      have sz_5 : wo.heap.size ≤ w_5.heap.size := (hbz).size
      clear hbz
      clear KE_4 KK_4 KX_4 KO_4 QB_4
      have cK_5_0 : w_5.cell? ⟨w.heap.size, 0, none⟩ = some (.int .i64 ka) := KK_5.out.cell 0
      have cK_5_1 : w_5.cell? ⟨w.heap.size, 1, none⟩ = some (.int .i64 kb) := KK_5.out.cell 1
      have cK_5_2 : w_5.cell? ⟨w.heap.size, 2, none⟩ = some (.int .i64 kc) := KK_5.out.cell 2
      have zK_5 : w.heap.size < w_5.heap.size := KK_5.out.lt
      go_wp2_with fail
      refine (strip_any o ⟨ka, kb, kc⟩ Ao co _ w_5 HK.out (by omega) hlo hco KO_5.out (fun b hb => by have h9 : b < w_3.heap.size := hb; omega)).mono ?_
      rintro e w_6 ⟨vS, rfl, hownS, hbz⟩
      rw [← HST.out] at hownS
      obtain ⟨AS, cS, rfl, hcS1, hcS2, _⟩ := hownS.form
      have HSl := Lib.hid hownS.vl
      clear hownS
      clear cK_5_0 cK_5_1 cK_5_2 zK_5
      have KE_6 : Hid (Els w_6 S l A) := Lib.hid (KE_5.out.below hbz)
      have KK_6 : Hid (Blk' w_6 (w.heap.size) 23 #[.int .i64 ka, .int .i64 kb, .int .i64 kc]) := Lib.hid (KK_5.out.below hbz KK_5.out.lt)
      have KX_6 : Hid (Blk' w_6 (w.heap.size + 1) 28 #[.int .i64 3, .int .i64 0, .int .i64 1]) := Lib.hid (KX_5.out.below hbz KX_5.out.lt)
      have KO_6 : Hid (Els w_6 (fun b => b < w_3.heap.size) o Ao) := Lib.hid (KO_5.out.below hbz)
      have QB_6 : Hid (Below w.heap.size w w_6) := Lib.hid (bthen QB_5.out hbz QB_5.out.size)
      have sz_6 : w_5.heap.size ≤ w_6.heap.size := (hbz).size
      clear hbz
      clear KE_5 KK_5 KX_5 KO_5 QB_5
      have hSe : ST = l := by rw [HST.out]; exact HG1.out.2.2
      have HSe := Lib.hid hSe
      clear hSe
      go_wp2_with fail
      refine (equalTok_any AS A ST l ST.length l.length cS c _ S w_6 rfl rfl (by omega) hl9 HSl.out.els.2.2.2 KE_6.out).mono ?_
      rintro e w_7 ⟨rfl, hbz⟩
      have KE_7 : Hid (Els w_7 S l A) := Lib.hid (KE_6.out.below hbz)
      have KK_7 : Hid (Blk' w_7 (w.heap.size) 23 #[.int .i64 ka, .int .i64 kb, .int .i64 kc]) := Lib.hid (KK_6.out.below hbz KK_6.out.lt)
      have KX_7 : Hid (Blk' w_7 (w.heap.size + 1) 28 #[.int .i64 3, .int .i64 0, .int .i64 1]) := Lib.hid (KX_6.out.below hbz KX_6.out.lt)
      have KO_7 : Hid (Els w_7 (fun b => b < w_3.heap.size) o Ao) := Lib.hid (KO_6.out.below hbz)
      have QB_7 : Hid (Below w.heap.size w w_7) := Lib.hid (bthen QB_6.out hbz QB_6.out.size)
      have sz_7 : w_6.heap.size ≤ w_7.heap.size := (hbz).size
      clear hbz
      clear KE_6 KK_6 KX_6 KO_6 QB_6
      go_wp2
      go_ret
      exact ⟨ret_bool (by simp [HSe.out]), QB_7.out⟩

theorem layoutWellFormed_row (s : ByteArray) (l : List Tok) (k : K3) (v u x : Value) (W : World) (h0 : Vl W (OldS W) s v) (h1 : Vl W (OldS W) l u) (h2 : Vl W (OldS W) k x) :
    Calls Try.prog 3 #[v, u, x] W fun e W' => e = .returned (.bool true) ∧ Below W.heap.size W W' := by
  obtain ⟨rfl, hs⟩ := h0.str
  obtain ⟨A, c, rfl, hlc, hc, hA⟩ := h1.slice
  obtain ⟨rfl, hk⟩ := h2.k3
  exact layoutWellFormed_any s l k A c (OldS W) W hs hk hlc hc hA (fun b h => h)
end Go.Proofs.Ytabehgggahnopaa
