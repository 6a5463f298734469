/- Contract: core.Build: the forest of a word. -/
import Derived.Test.YtjdojogjogenkaaDoorQBldQ
import Derived.Test.YtjdojogjogenkaaDoorQEnds
import Derived.Test.YtjdojogjogenkaaDoorQw1
import Derived.Test.YtjdojogjogenkaaDoorQStab
import Derived.Test.YtjdojogjogenkaaDoorQp2
import Derived.Test.YtjdojogjogenkaaDoorQMCheck
import Derived.Deep.Cut
import Derived.Deep.DeepCutAuto
namespace Go.Proofs.YtjdojogjogenkaaDoor
open Go.RowKit
set_option linter.unusedVariables false
def RetB (g : Gram) (ws : List Int) (T : List (List Nat)) (w : World) (e : Ending) (w' : World) : Prop :=
 ∃ (A : Option Addr) (nf c : Nat) (root : Int), e = .returned (.tuple #[.agg #[.slice A nf c, .int .i64 root], .bool true]) ∧ Below w.heap.size w w' ∧
  ((root = -1 ∧ ¬ DerW g [⟨false, g.start⟩] ws) ∨
   ∃ (F : List FNode) (ks : List NKey) (r : Nat), root = (r : Int) ∧ nf = F.length ∧ Els w' (fun b => w.heap.size ≤ b ∧ b < w'.heap.size) F A ∧ ForestIs g ws T ks F ∧ ks[r]? = some ⟨⟨false, g.start⟩, 0, ws.length⟩ ∧ F.length ≤ 1000000 ∧ r < F.length ∧
    ∀ nd ∈ F, nd.packs.length ≤ 100000000 ∧ ∀ p ∈ nd.packs, p.kids.length ≤ 1000 ∧ ∀ k ∈ p.kids, 0 ≤ k ∧ k.toNat < F.length)
theorem set2 {w : World} {b : Nat} {t : TypeId} {a0 a1 : Value} (h : Blk' w b t #[a0, a1]) (v0 v1 : Value) :
  Blk' ((w.setCell ⟨b, 0, none⟩ v0).setCell ⟨b, 1, none⟩ v1) b t #[v0, v1] := (h.set_ 0 v0).set_ 1 v1
theorem zeroPacks (w : World) : (zeroValue 200).run Tryd.prog w = .ok nilV w := by kernel_rfl
theorem zeroB (w : World) : (zeroValue 4).run Tryd.prog w = .ok (.bool false) w := by kernel_rfl
theorem zeroI (w : World) : (zeroValue 3).run Tryd.prog w = .ok (.int .i64 0) w := by kernel_rfl
theorem keyOk_in {m n : Nat} {ws : List Int} {T : List (List Nat)} {k : NKey} (h : KeyIn m n ws T k) (hm : m ≤ 8) (hn : n ≤ 10) (hw : ws.length ≤ 12) : KeyOk k := by
 have h1 := h.1.1
 have h2 := h.1.2
 have h3 := h.2.le
 have h4 := h.2.len
 refine ⟨⟨by omega, ?_⟩, by omega, by omega⟩
 split at h2 <;> omega
theorem BfV.init {g : Gram} {ws : List Int} {T : List (List Nat)} {PM SM LB : Nat} {r : NKey} {w6 : World} (ho : OwnX w6 (fun _ => False) LB 194 (.slice (some ⟨LB, 0, none⟩) 1 1) [r]) (hp : KeyM w6 PM 0 nilV (fun _ => nilV)) (hs : KeyM w6 SM (0 + 1) (.bool false) (fun k' => if k' = r then .bool true else .bool false)) (h1 : PM ≠ SM) (h2 : LB ≠ PM) (h3 : LB ≠ SM) :
  BfV g ws T PM SM LB w6.heap.size [] [r] [r] (.slice (some ⟨LB, 0, none⟩) 1 1) w6 := by
 refine ⟨ho, ⟨fun _ => False, _, hp, fun k h => by simp at h, fun b h => h.elim⟩, hs.iff (fun k _ => ?_), h1, fun e => ?_, fun e => ?_, fun b e => ?_, Nat.le_refl _⟩
 ·by_cases e : k = r
  ·subst e; simp
  ·simp [e]
 ·injection e with e; exact h2 e
 ·injection e with e; exact h3 e
 ·injection e with e; exact .inl e.symm
theorem Kept.to_below' {a w w' : World} {B PM LB SM RB : Nat} (h : Kept (fun b => b = PM ∨ b = LB ∨ b = SM) w w') (hb : Below B a w) (hz : B + 2 ≤ RB ∧ PM = RB + 1 ∧ LB = RB + 2 ∧ SM = RB + 3 ∧ SM < w.heap.size) : Below B a w' :=
 hb.trans (h.to_below (fun b hb => by omega) (by omega))
set_option maxRecDepth 100000 in
set_option maxHeartbeats 8000000 in
theorem build_any (tm n y : Nat) (rs : List Rule) (A : Option Addr) (c : Nat) (ws : List Int) (B : Option Addr) (cw : Nat) (T : List (List Nat)) (bf : Nat) (bs : List Nat) (S Sw : Nat → Prop) (w : World)
  (hv : ValidG ⟨(tm : Int), (n : Int), (y : Int), rs⟩) (hm : ws.length ≤ 12) (hT : MskS ws.length n T) (hSn : SndM ⟨(tm : Int), (n : Int), (y : Int), rs⟩ ws T) (hCl : ClM ⟨(tm : Int), (n : Int), (y : Int), rs⟩ ws T) (hlc : rs.length ≤ c) (hc : c ≤ 9223372036854775807) (hA : Els w S rs A) (hS : ∀ b, S b → b < w.heap.size)
  (hR : RowsU w bf bs (ws.length + 1) n n T) (hB : Els w Sw ws B) (hSw : ∀ b, Sw b → b < w.heap.size) (hTab : Tab32 w) :
  Calls Tryd.prog 98 #[.agg #[.int .i64 (tm : Int), .int .i64 (n : Int), .int .i64 (y : Int), .slice A rs.length c], .slice B ws.length cw, .slice (some ⟨bf, 0, none⟩) n n, .int .i64 1099511627776] w (RetB ⟨(tm : Int), (n : Int), (y : Int), rs⟩ ws T w) := by
 have HV := Lib.hid hv
 have HT := Lib.hid hT
 have HSn := Lib.hid hSn
 have HCl := Lib.hid hCl
 have HA := Lib.hid hA
 have HS := Lib.hid hS
 have HR := Lib.hid hR
 have HB := Lib.hid hB
 have HSw := Lib.hid hSw
 have HTab := Lib.hid hTab
 have hm9 : (ws.length : Int) ≤ 12 := by omega
 have hyn : y < n := by have := hv.s1; dsimp only at this; omega
 have hn10 : n ≤ 10 := by have := hv.n10; dsimp only at this; omega
 have hy0 : (0 : Int) ≤ (y : Int) := by omega
 have hy9 : (y : Int) < (n : Int) := by omega
 have hw0 : (0 : Int) < (ws.length : Int) + 1 := by omega
 have hmm := @run_makeMap Tryd.prog
 clear hv hT hSn hCl hA hS hR hB hSw hTab
 go_enter Tryd.func98, Tryd.ntmps98
 go_wp2_with fail
 obtain ⟨w0, hw0'⟩ : ∃ w0 : World, w0 = (w.alloc (.cells #[.int .i64 (tm : Int), .int .i64 (n : Int), .int .i64 (y : Int), .slice A rs.length c] 24)).alloc (.cells #[.slice none 0 0, .int .i64 0] 104) := ⟨_, rfl⟩
 rw [← hw0']
 have hb0 : Below w.heap.size w w0 := by rw [hw0']; exact ((Below.refl _ _).alloc (Nat.le_refl _) _).alloc (by simp) _
 have HG0 : Hid (Blk' w0 w.heap.size 24 #[.int .i64 (tm : Int), .int .i64 (n : Int), .int .i64 (y : Int), .slice A rs.length c]) := Lib.hid (by rw [hw0']; exact (Blk'.new _ _ _).alloc _)
 have HF0 : Hid (Blk' w0 (w.heap.size + 1) 104 #[.slice none 0 0, .int .i64 0]) := Lib.hid (by rw [hw0']; exact Blk'.new' _ _ _ (by simp))
 have HB0 := Lib.hid hb0
 have HZ0 : Hid (w0.heap.size = w.heap.size + 2) := Lib.hid (by rw [hw0']; simp)
 clear hb0 hw0'
 refine (n_any (y : Int) w0).mono ?_
 rintro e w1 ⟨rfl, hb1⟩
 have HB1 := Lib.hid (bthen HB0.out hb1 HB0.out.size)
 have HG1 := Lib.hid (HG0.out.below hb1 HG0.out.lt)
 have HF1 := Lib.hid (HF0.out.below hb1 HF0.out.lt)
 have HZ1 : Hid (w.heap.size + 2 ≤ w1.heap.size) := Lib.hid (by have := hb1.size; have := HZ0.out; omega)
 clear hb1 HG0 HF0 HB0 HZ0
 have hR1 := HR.out.below (HB1.out)
 obtain ⟨br, hbr⟩ := get_some (show y < bs.length by rw [hR1.blen]; exact hyn)
 obtain ⟨row, hrow⟩ := get_some (show y < T.length by rw [HT.out.len]; exact hyn)
 have hBr := hR1.rows y br row hbr hrow
 obtain ⟨v, hvv⟩ := get_some (show 0 < row.length by rw [hBr.2]; omega)
 have d0 : w1.cell? ⟨bf, y, none⟩ = some (.slice (some ⟨br, 0, none⟩) (ws.length + 1) (ws.length + 1)) := hR1.outer y br hbr
 have d1 : w1.cell? ⟨br, 0, none⟩ = some (.int .u32 (v : Int)) := (hBr.1.cell _).trans (ucells_get hvv)
 have zbf := hR1.bflt
 have zbr := hBr.1.lt
 have hmsk : mskAt T y 0 = v := by unfold mskAt; rw [List.getD_eq_getElem?_getD (l := T), hrow]; simp only [Option.getD_some]; rw [List.getD_eq_getElem?_getD, hvv]; rfl
 have hv13 : v < 2 ^ (ws.length + 1) := by rw [← hmsk]; exact HT.out.low _ _
 have hpm : 2 ^ (ws.length + 1) ≤ 8192 := pow13 (by omega)
 have hv14 : v < 8192 := by omega
 have hacc := acc_iff (a := y) HSn.out HCl.out
 rw [hmsk] at hacc
 have hsr : (v : Int) / 2 ^ ws.length = ((v / 2 ^ ws.length : Nat) : Int) := by push_cast; rfl
 have hvd : v / 2 ^ ws.length ≤ v := Nat.div_le_self _ _
 have HAcc := Lib.hid hacc
 have HMk := Lib.hid hmsk
 have han : bits .and .u32 ((v : Int) / 2 ^ ws.length) 1 = if v.testBit ws.length = true then 1 else 0 := by
  rw [hsr, show (1 : Int) = ((1 : Nat) : Int) from rfl, u32_and_nat _ 1 (by omega) (by omega), shr_bit]
  split <;> rfl
 have HR1 := Lib.hid hR1
 clear hR1 hbr hrow hBr hvv hmsk hv13 hpm hacc hsr hvd
 have g2 : w1.cell? ⟨w.heap.size, 2, none⟩ = some (.int .i64 (y : Int)) := HG1.out.cell 2
 have zG : w.heap.size < w1.heap.size := HG1.out.lt
 by_cases hac : v.testBit ws.length = true
 ·rw [if_pos hac] at han
  have HDer : Hid (DerW ⟨(tm : Int), (n : Int), (y : Int), rs⟩ [⟨false, (y : Int)⟩] ws) := Lib.hid (HAcc.out.1 hac)
  have HKr : Hid (KeyIn tm n ws T (⟨⟨false, (y : Int)⟩, 0, ws.length⟩ : NKey)) := Lib.hid ⟨⟨hy0, by rw [if_neg (by simp)]; exact hy9⟩, ⟨Nat.zero_le _, Nat.le_refl _, hy0, by show (mskAt T (y : Int).toNat 0).testBit ws.length = true; rw [Int.toNat_natCast]; exact HMk.out ▸ hac⟩⟩
  go_upto_region 6 with (fail)
  obtain ⟨LB, hLB⟩ : ∃ b, b = w1.heap.size + 1 + 1 := ⟨_, rfl⟩
  obtain ⟨PM, hPM⟩ : ∃ b, b = w1.heap.size + 1 := ⟨_, rfl⟩
  obtain ⟨RB, hRB⟩ : ∃ b, b = w1.heap.size := ⟨_, rfl⟩
  rw [← hLB, ← hPM, ← hRB]
  obtain ⟨w4, hw4⟩ : ∃ w4 : World, w4 = ((w1.alloc (.cells #[.bool false, .int .i64 (y : Int), .int .i64 0, .int .i64 (ws.length : Int)] 194)).alloc (.map #[] 0)).alloc (.cells #[.bool false, .int .i64 (y : Int), .int .i64 0, .int .i64 (ws.length : Int)] 194) := ⟨_, rfl⟩
  rw [← hw4]
  have hb4 : Below w1.heap.size w1 w4 := by rw [hw4]; exact (((Below.refl _ _).alloc (Nat.le_refl _) _).alloc (by simp) _).alloc (by simp; omega) _
  obtain ⟨SM, hSM⟩ : ∃ b, b = w4.heap.size := ⟨_, rfl⟩
  have hsz4 : w4.heap.size = w1.heap.size + 1 + 1 + 1 := by rw [hw4]; simp
  have hRk : Blk' w4 RB 194 #[.bool false, .int .i64 (y : Int), .int .i64 0, .int .i64 (ws.length : Int)] := by rw [hw4, hRB]; exact ((Blk'.new _ _ _).alloc _).alloc _
  have hLk : Blk' w4 LB 194 #[.bool false, .int .i64 (y : Int), .int .i64 0, .int .i64 (ws.length : Int)] := by rw [hw4]; exact Blk'.new' _ _ _ (by rw [hLB]; simp)
  have hPm : KeyM w4 PM 0 nilV (fun _ => nilV) := by
   have e : PM = (w1.alloc (.cells #[.bool false, .int .i64 (y : Int), .int .i64 0, .int .i64 (ws.length : Int)] 194)).heap.size := by rw [hPM]; simp
   rw [hw4, e]
   exact (KeyM.made _ _).below ((Below.refl _ _).alloc (Nat.le_refl _) _)
  have hOk : KeyOk (⟨⟨false, (y : Int)⟩, 0, ws.length⟩ : NKey) := keyOk_in HKr.out (by have := HV.out.t8; dsimp only at this; omega) hn10 hm
  obtain ⟨w6, hrun, hM6, hg6⟩ := (KeyM.made w4 (.bool false)).put Tryd.underlying199 (by simp [maxLen]) hOk (.bool true)
  have hrun2 : (Instr.mapUpdate 199 (.map (some w4.heap.size)) (.agg #[.bool false, .int .i64 (y : Int), .int .i64 0, .int .i64 (ws.length : Int)]) (.bool true)).run Tryd.prog (w4.alloc (.map #[] 0)) = .ok () w6 := hrun
  rw [← hSM] at hM6 hg6
  clear hrun
  have hb6 : Below w4.heap.size w4 w6 := ((Below.refl w4.heap.size w4).alloc (Nat.le_refl _) (.map #[] 0)).grown hg6 (by simp) (fun k hk => by injection hk with hk; omega)
  have HG6 := Lib.hid ((HG1.out.below hb4 HG1.out.lt).below hb6 (HG1.out.below hb4 HG1.out.lt).lt)
  have HF6 := Lib.hid ((HF1.out.below hb4 HF1.out.lt).below hb6 (HF1.out.below hb4 HF1.out.lt).lt)
  have HRk6 := Lib.hid (hRk.below hb6 hRk.lt)
  have HB6 : Hid (Below w.heap.size w w6) := Lib.hid (bthen (bthen HB1.out hb4 HB1.out.size) hb6 (by have := HB1.out.size; omega))
  have HZ6 : Hid (w.heap.size + 2 ≤ RB ∧ PM = RB + 1 ∧ LB = RB + 2 ∧ SM = RB + 3 ∧ SM < w6.heap.size) := Lib.hid (by have := HZ1.out; have := hM6.lt; omega)
  have HV6 : Hid (BfV ⟨(tm : Int), (n : Int), (y : Int), rs⟩ ws T PM SM LB w6.heap.size [] [(⟨⟨false, (y : Int)⟩, 0, ws.length⟩ : NKey)] [(⟨⟨false, (y : Int)⟩, 0, ws.length⟩ : NKey)] (.slice (some ⟨LB, 0, none⟩) 1 1) w6) := Lib.hid (by
   refine BfV.init ?_ (hPm.below hb6) hM6 (by omega) (by omega) (by omega)
   have hLk6 := hLk.below hb6 hLk.lt
   exact ⟨[[.bool false, .int .i64 (y : Int), .int .i64 0, .int .i64 (ws.length : Int)]], ⟨rfl, .inr ⟨LB, 1, _, rfl, Nat.le_refl _, hLk6, Nat.le_refl _, by simp [maxLen], rfl, rfl⟩⟩, rfl, rd_one ⟨rfl, hOk⟩, fun k _ h => h, fun b h => h.elim⟩)
  have r4 : w4.cell? ⟨RB, 0, none⟩ = some (.bool false) := hRk.cell 0
  have r5 : w4.cell? ⟨RB, 1, none⟩ = some (.int .i64 (y : Int)) := hRk.cell 1
  have r6 : w4.cell? ⟨RB, 2, none⟩ = some (.int .i64 0) := hRk.cell 2
  have r7 : w4.cell? ⟨RB, 3, none⟩ = some (.int .i64 (ws.length : Int)) := hRk.cell 3
  have zR : RB < w4.heap.size := hRk.lt
  clear hac han d0 d1 zbf zbr g2 zG hw4 hb4 hsz4 hRk hLk hPm hOk hM6 hg6 hb6 hLB hPM hRB
  have HSM := Lib.hid hSM
  clear hSM
  go_upto_region 7 with (fail)
  rw [← HSM.out]
  clear hrun2 r4 r5 r6 r7 zR HSM
  go_wp2_with fail
  go_loopw [12, 14, 15] (fun v12 v14 v15 wr => ∃ (i : Nat) (L : List NKey) (ct : Nat), v15 = .int .i64 i ∧ v14 = .int .i64 ct ∧ ct ≤ i * 913952 ∧ BfL tm n ⟨(tm : Int), (n : Int), (y : Int), rs⟩ ws T i L ∧ BfV ⟨(tm : Int), (n : Int), (y : Int), rs⟩ ws T PM SM LB w6.heap.size (L.take i) L L v12 wr ∧ Kept (fun b => b = PM ∨ b = LB ∨ b = SM) w6 wr) (fun _ _ v15 _ => 3043 - (intOf v15).toNat)
  case atStart => exact ⟨0, _, 0, rfl, rfl, Nat.zero_le _, BfL.begin HKr.out, HV6.out, Kept.refl _ _⟩
  case round =>
   clear HV6
   obtain ⟨wo, hwo⟩ : ∃ wo : World, wo = wr := ⟨_, rfl⟩
   subst hwo
   obtain ⟨i, L, ct, rfl, rfl, hct, hL, hV, hK⟩ := hrel
   have HL := Lib.hid hL
   have HVo := Lib.hid hV
   have HK := Lib.hid hK
   have hLl : L.length ≤ 3042 := keys_bound (by have := HV.out.t8; dsimp only at this; omega) hn10 hm hL.nodup hL.key
   have hiL : i ≤ L.length := hL.le
   clear hL hV hK
   by_cases hlt : i < L.length
   ·obtain ⟨k, hk⟩ := get_some hlt
    obtain ⟨lb, cl, rfl, hcl1, hcl2, zL, hok, l0, l1, l2, l3⟩ := HVo.out.at_ hk
    have hki := HL.out.key k (List.mem_of_getElem? hk)
    have HKi := Lib.hid hki
    have HKk : Hid (KeyOk k ∧ k.fr ≤ ws.length ∧ k.to ≤ 12) := Lib.hid ⟨hok, Nat.le_trans hki.2.le hki.2.len, Nat.le_trans hki.2.len hm⟩
    have hbo : Below w.heap.size w wo := HK.out.to_below' HB6.out HZ6.out
    have HGo := Lib.hid (HG6.out.kept HK.out (by have := HZ6.out; omega))
    have g0 : wo.cell? ⟨w.heap.size, 0, none⟩ = some (.int .i64 (tm : Int)) := HGo.out.cell 0
    have g1 : wo.cell? ⟨w.heap.size, 1, none⟩ = some (.int .i64 (n : Int)) := HGo.out.cell 1
    have g2 : wo.cell? ⟨w.heap.size, 2, none⟩ = some (.int .i64 (y : Int)) := HGo.out.cell 2
    have g3 : wo.cell? ⟨w.heap.size, 3, none⟩ = some (.slice A rs.length c) := HGo.out.cell 3
    have zG : w.heap.size < wo.heap.size := HGo.out.lt
    have hi0 : (0 : Int) ≤ (i : Int) := by omega
    have hi1 : (i : Int) < (L.length : Int) := by omega
    have HAo : Hid (Els wo.drew S rs A ∧ (∀ b, S b → b < wo.drew.heap.size) ∧ RowsU wo.drew bf bs (ws.length + 1) n n T ∧ Els wo.drew Sw ws B ∧ (∀ b, Sw b → b < wo.drew.heap.size) ∧ Tab32 wo.drew) := Lib.hid ⟨HA.out.belowB hbo.drew HS.out, fun b hb => by have := HS.out b hb; have := hbo.size; show b < wo.heap.size; omega, HR.out.below hbo.drew, HB.out.belowB hbo.drew HSw.out, fun b hb => by have := HSw.out b hb; have := hbo.size; show b < wo.heap.size; omega, (HTab.out.below hbo HTab.out.1).drew⟩
    have HRl := Lib.hid (show rs.length ≤ 32 from HV.out.len)
    have HR4 : Hid (∀ q ∈ rs, q.right.length ≤ 4) := Lib.hid (fun q hq => (HV.out.rules q hq).2.2.1)
    have HSy : Hid (∀ q ∈ rs, ∀ s ∈ q.right, 0 ≤ s.n ∧ (s.term = false → s.n < (n : Int))) := Lib.hid (fun q hq s hs => ⟨((HV.out.rules q hq).2.2.2 s hs).1, fun h => by have := ((HV.out.rules q hq).2.2.2 s hs).2; rw [if_neg (by simp [h])] at this; exact this⟩)
    have HBo := Lib.hid hbo
    have HKx := Lib.hid hk
    clear hbo hok hki hk
    go_wp2_with fail
    refine wp_region_noPanic ?_
    refine wp_region_held_drew (S := (fun w' => w'.cell? ⟨w.heap.size, 0, none⟩ = some (.int .i64 (tm : Int)) ∧ w'.cell? ⟨w.heap.size, 1, none⟩ = some (.int .i64 (n : Int)) ∧ w'.cell? ⟨w.heap.size, 2, none⟩ = some (.int .i64 (y : Int)) ∧ w'.cell? ⟨w.heap.size, 3, none⟩ = some (.slice A rs.length c) ∧ w'.cell? ⟨lb, i * 4, none⟩ = some (.bool k.sym.term) ∧ w'.cell? ⟨lb, i * 4 + 1, none⟩ = some (.int .i64 k.sym.n) ∧ w'.cell? ⟨lb, i * 4 + 2, none⟩ = some (.int .i64 (k.fr : Int)) ∧ w'.cell? ⟨lb, i * 4 + 3, none⟩ = some (.int .i64 (k.to : Int)))) (by kernel_rfl) ?ha (fun hHeld => ?ba)
    case ha => ((try dsimp only); go_keep)
    refine take_run (i := 0) (v := ?va0) rfl (by kernel_rfl) (by kernel_rfl) (by kernel_rfl) (fun _ _ _ h => h) (by rfl) ?ya0 (by assumption) ?ra0
    case ya0 => (intro w hSw; (try dsimp only at hSw); go_simp; try with_reducible rfl)
    try simp only [Act.put, List.setIfInBounds_toArray, List.set_cons_zero, List.set_cons_succ]
    refine take_run (i := 1) (v := ?va1) rfl (by kernel_rfl) (by kernel_rfl) (by kernel_rfl) (fun _ _ _ h => h) (by rfl) ?ya1 (by assumption) ?ra1
    case ya1 => (intro w hSw; (try dsimp only at hSw); go_simp; try with_reducible rfl)
    try simp only [Act.put, List.setIfInBounds_toArray, List.set_cons_zero, List.set_cons_succ]
    refine take_run (i := 2) (v := ?va2) rfl (by kernel_rfl) (by kernel_rfl) (by kernel_rfl) (fun _ _ _ h => h) (by rfl) ?ya2 (by assumption) ?ra2
    case ya2 => (intro w hSw; (try dsimp only at hSw); go_simp; try with_reducible rfl)
    try simp only [Act.put, List.setIfInBounds_toArray, List.set_cons_zero, List.set_cons_succ]
    refine take_run (i := 3) (v := ?va3) rfl (by kernel_rfl) (by kernel_rfl) (by kernel_rfl) (fun _ _ _ h => h) (by rfl) ?ya3 (by assumption) ?ra3
    case ya3 => (intro w hSw; (try dsimp only at hSw); go_simp; try with_reducible rfl)
    try simp only [Act.put, List.setIfInBounds_toArray, List.set_cons_zero, List.set_cons_succ]
    refine take_run (i := 4) (v := ?va4) rfl (by kernel_rfl) (by kernel_rfl) (by kernel_rfl) (fun _ _ _ h => h) (by rfl) ?ya4 (by assumption) ?ra4
    case ya4 => (intro w hSw; (try dsimp only at hSw); go_simp; try with_reducible rfl)
    try simp only [Act.put, List.setIfInBounds_toArray, List.set_cons_zero, List.set_cons_succ]
    refine take_run (i := 5) (v := ?va5) rfl (by kernel_rfl) (by kernel_rfl) (by kernel_rfl) (fun _ _ _ h => h) (by rfl) ?ya5 (by assumption) ?ra5
    case ya5 => (intro w hSw; (try dsimp only at hSw); go_simp; try with_reducible rfl)
    try simp only [Act.put, List.setIfInBounds_toArray, List.set_cons_zero, List.set_cons_succ]
    refine take_run (i := 6) (v := ?va6) rfl (by kernel_rfl) (by kernel_rfl) (by kernel_rfl) (fun _ _ _ h => h) (by rfl) ?ya6 (by assumption) ?ra6
    case ya6 => (intro w hSw; (try dsimp only at hSw); go_simp; try with_reducible rfl)
    try simp only [Act.put, List.setIfInBounds_toArray, List.set_cons_zero, List.set_cons_succ]
    refine take_call (i := 7) rfl (by kernel_rfl) (by rfl) (fun Kq hK => ?_)
    go_simp
    go_at_call 128
    refine (packs_any (tm : Int) n (y : Int) rs A c ws B cw T bf bs k S Sw wo.drew hm HT.out (by omega) HKk.out HRl.out HR4.out HSy.out hlc hc HAo.out.1 HAo.out.2.1 HAo.out.2.2.1 HAo.out.2.2.2.1 HAo.out.2.2.2.2.1 HAo.out.2.2.2.2.2).mono ?_
    rintro e w7 ⟨v16, rfl, hOw, hb7⟩
    have HB7 := Lib.hid (bundrew hb7)
    have HOw : Hid (Own w7 (fun _ => False) wo.heap.size 203 v16 (packsK ⟨(tm : Int), (n : Int), (y : Int), rs⟩ ws T k)) := Lib.hid hOw
    have mg0 : w7.cell? ⟨w.heap.size, 0, none⟩ = some (.int .i64 (tm : Int)) := (HB7.out.cell (p := ⟨w.heap.size, 0, none⟩) zG).trans g0
    have mg1 : w7.cell? ⟨w.heap.size, 1, none⟩ = some (.int .i64 (n : Int)) := (HB7.out.cell (p := ⟨w.heap.size, 1, none⟩) zG).trans g1
    have mg2 : w7.cell? ⟨w.heap.size, 2, none⟩ = some (.int .i64 (y : Int)) := (HB7.out.cell (p := ⟨w.heap.size, 2, none⟩) zG).trans g2
    have mg3 : w7.cell? ⟨w.heap.size, 3, none⟩ = some (.slice A rs.length c) := (HB7.out.cell (p := ⟨w.heap.size, 3, none⟩) zG).trans g3
    have ml0 : w7.cell? ⟨lb, i * 4, none⟩ = some (.bool k.sym.term) := (HB7.out.cell (p := ⟨lb, i * 4, none⟩) zL).trans l0
    have ml1 : w7.cell? ⟨lb, i * 4 + 1, none⟩ = some (.int .i64 k.sym.n) := (HB7.out.cell (p := ⟨lb, i * 4 + 1, none⟩) zL).trans l1
    have ml2 : w7.cell? ⟨lb, i * 4 + 2, none⟩ = some (.int .i64 (k.fr : Int)) := (HB7.out.cell (p := ⟨lb, i * 4 + 2, none⟩) zL).trans l2
    have ml3 : w7.cell? ⟨lb, i * 4 + 3, none⟩ = some (.int .i64 (k.to : Int)) := (HB7.out.cell (p := ⟨lb, i * 4 + 3, none⟩) zL).trans l3
    clear hb7 hOw
    refine hK.out _ _ ?ha7 (fun hHeld => ?ra7)
    case ha7 => ((try dsimp only); go_keep)
    clear hK Kq
    try simp only [Act.put, List.setIfInBounds_toArray, List.set_cons_zero, List.set_cons_succ]
    refine take_run (i := 8) (v := ?va8) rfl (by kernel_rfl) (by kernel_rfl) (by kernel_rfl) (fun _ _ _ h => h) (by rfl) ?ya8 (by assumption) ?ra8
    case ya8 => (intro w hSw; (try dsimp only at hSw); go_simp; try with_reducible rfl)
    try simp only [Act.put, List.setIfInBounds_toArray, List.set_cons_zero, List.set_cons_succ]
    refine wpAnyH_done (by kernel_rfl) ?_ _
    refine NoPanic.normal ?_
    obtain ⟨pk, hpk⟩ : ∃ pk, pk = packsK ⟨(tm : Int), (n : Int), (y : Int), rs⟩ ws T k := ⟨_, rfl⟩
    obtain ⟨P, hP⟩ : ∃ P, P = packsL ⟨(tm : Int), (n : Int), (y : Int), rs⟩ ws T k := ⟨_, rfl⟩
    rw [← hpk] at HOw
    have hpl : pk.length ≤ 913952 := by rw [hpk]; unfold packsK; rw [List.length_map]; exact packs_len _ _ _ _ HRl.out HR4.out HKk.out.2.2
    have hpkP : pk = P.map toK := by rw [hpk, hP]; rfl
    have hplP : P.length = pk.length := by rw [hpkP, List.length_map]
    have HPl := Lib.hid hplP
    have HPm := Lib.hid hpkP
    have HP := Lib.hid hP
    obtain ⟨Ap, cp, rfl, hcp1, hcp2, _⟩ := HOw.out.form
    obtain ⟨c2, hc2⟩ : ∃ c2, c2 = ct + pk.length := ⟨_, rfl⟩
    have hc3 : c2 ≤ (i + 1) * 913952 := by omega
    have hc4 : c2 ≤ 2780241984 := by omega
    have hwc : IntKind.i64.wrap ((ct : Int) + (pk.length : Int)) = (c2 : Int) := by rw [show (ct : Int) + (pk.length : Int) = (c2 : Int) by omega]; exact IntWalk.i64_in _ (by omega)
    have hgt : ¬ (1099511627776 : Int) < (c2 : Int) := by omega
    have hV7 := HVo.out.below HB7.out
    obtain ⟨Zm, Xm, hX1, hX2, hX3⟩ := hV7.pm
    have htl : (L.take i).length = i := by rw [List.length_take]; omega
    obtain ⟨w8, hrun, hM8, hg8⟩ := hX1.put Tryd.underlying197 (by rw [htl]; simp [maxLen]; omega) HKk.out.1 (.slice Ap pk.length cp)
    have hrun2 : (Instr.mapUpdate 197 (.map (some PM)) (.agg #[.bool k.sym.term, .int .i64 k.sym.n, .int .i64 (k.fr : Int), .int .i64 (k.to : Int)]) (.slice Ap pk.length cp)).run Tryd.prog w7 = .ok () w8 := hrun
    have hpmo : PM < wo.heap.size ∧ SM < wo.heap.size ∧ lb < wo.heap.size := by have := HK.out.size; have := HZ6.out; omega
    have kk8 : Kept (fun b => b = PM) w7 w8 := Kept.of_grown hg8 (fun b hb => by injection hb with hb; exact hb.symm)
    have hu8 : Vl w8 (fun b => wo.heap.size ≤ b ∧ b < w7.heap.size) pk (.slice Ap pk.length cp) := (HOw.out.vl.mono (fun b hb => ⟨hb.1.elim (fun h => h.elim) id, hb.2⟩)).kept kk8 (fun b hb e => by have h1 := hb.1; have e2 : b = PM := e; omega)
    have HEp8 := Lib.hid hu8.els.2.2.2
    have hV8 := hV7.put hX1 hX2 hX3 (notin_take HL.out.nodup HKx.out) hg8 hM8 (Z' := fun b => wo.heap.size ≤ b ∧ b < w7.heap.size) (by rw [← hpk]; exact hu8) (fun b hb => ⟨by omega, by omega, fun e => by have e2 : some lb = some b := e; injection e2 with e2; have h1 := hb.1; omega, hb.2⟩)
    rw [← take_snoc HKx.out] at hV8
    have HV8 := Lib.hid hV8
    have HK8 : Hid (Kept (fun b => b = PM ∨ b = LB ∨ b = SM) w6 w8) := Lib.hid ((HK.out.below HB7.out).later kk8 (fun b hb => .inl (.inl hb)))
    have HPo := Lib.hid hpmo
    have HZ8 : Hid (wo.heap.size ≤ w7.heap.size ∧ w7.heap.size ≤ w8.heap.size) := Lib.hid ⟨HB7.out.size, kk8.size⟩
    have HSm : Hid (∀ q ∈ rs, ∀ s ∈ q.right, SymMN tm n s) := Lib.hid (fun q hq s hs => (HV.out.rules q hq).2.2.2 s hs)
    have HKd : Hid (∀ p ∈ P, ∀ x ∈ p.2, KeyIn tm n ws T x) := Lib.hid (fun p hp => keyIn_kid HSn.out HSm.out HKi.out (hP ▸ hp))
    have HC2 := Lib.hid hc2
    have HLb : Hid (lb = LB ∨ w6.heap.size ≤ lb) := Lib.hid (HVo.out.vb lb rfl)
    clear hpk hP hpkP hplP hV7 hX1 hX2 hX3 htl hrun hM8 hg8 kk8 hu8 hV8 hpmo g0 g1 g2 g3 zG l0 l1 l2 l3 mg0 mg1 mg2 mg3
    have zL7 : lb < w7.heap.size := by have := HZ8.out; omega
    go_wp2_with fail
    clear hrun2 ml0 ml1 ml2 ml3 hwc hc2 hgt
    go_loopw [12, 88] (fun v12 v88 wr => ∃ (a : Nat) (L' : List NKey), a ≤ pk.length ∧ v88 = .int .i64 a ∧ BfK tm n ws T L P a [] L' ∧ BfV ⟨(tm : Int), (n : Int), (y : Int), rs⟩ ws T PM SM LB w6.heap.size (L.take (i + 1)) L' L' v12 wr ∧ Kept (fun b => b = SM ∨ b = lb) w8 wr ∧ ∀ b, v12.ownBlock = some b → b = lb ∨ w8.heap.size ≤ b) (fun _ v88 _ => pk.length - (intOf v88).toNat)
    case atStart => exact ⟨0, L, Nat.zero_le _, rfl, BfK.begin HL.out _, HV8.out, Kept.refl _ _, fun b hb => by injection hb with hb; exact .inl hb.symm⟩
    case round =>
     obtain ⟨wp, hwp⟩ : ∃ wp : World, wp = wr := ⟨_, rfl⟩
     subst hwp
     obtain ⟨a, L1, hapk, rfl, hBk, hVp, hKp, hvb⟩ := hrel
     have HBk := Lib.hid hBk
     have HVp := Lib.hid hVp
     have HKp := Lib.hid hKp
     have HVb := Lib.hid hvb
     obtain ⟨A12, c12, rfl, _⟩ := hVp.ls.form
     clear hBk hVp hKp hvb
     by_cases halt : a < pk.length
     ·obtain ⟨q, hq⟩ := get_some halt
      obtain ⟨b1, o1, Aq, cq, rfl, hZ1, hb1, _, hkc, hcq, hEq, q0, q1⟩ := HEp8.out.kpack hq
      have hnx : ¬ (b1 = SM ∨ b1 = lb) := by have := HPo.out; omega
      have hPa : P[a]? = some (q.rule, q.kids) := by
       have h := hq
       rw [HPm.out, List.getElem?_map] at h
       cases hp : P[a]? with
       | none => rw [hp] at h; simp at h
       | some p => rw [hp] at h; simp [toK] at h; rw [← h]
      have HPa := Lib.hid hPa
      have HEq := Lib.hid hEq
      have s0 : wp.cell? ⟨b1, o1 + a * 2, none⟩ = some (.int .i64 q.rule) := (HKp.out.cell (p := ⟨b1, o1 + a * 2, none⟩) hb1 hnx).trans q0
      have s1 : wp.cell? ⟨b1, o1 + a * 2 + 1, none⟩ = some (.slice Aq q.kids.length cq) := (HKp.out.cell (p := ⟨b1, o1 + a * 2 + 1, none⟩) hb1 hnx).trans q1
      have zb1 : b1 < wp.heap.size := Nat.lt_of_lt_of_le hb1 HKp.out.size
      have ha0 : (0 : Int) ≤ (a : Int) := by omega
      have ha1 : (a : Int) < (pk.length : Int) := by omega
      clear hq hPa hEq q0 q1
      go_wp2_with fail
      clear s0 s1
      go_loopw [12, 95] (fun v12 v95 wr => ∃ (b : Nat) (L' : List NKey), b ≤ q.kids.length ∧ v95 = .int .i64 b ∧ BfK tm n ws T L P a (q.kids.take b) L' ∧ BfV ⟨(tm : Int), (n : Int), (y : Int), rs⟩ ws T PM SM LB w6.heap.size (L.take (i + 1)) L' L' v12 wr ∧ Kept (fun b => b = SM ∨ b = lb) w8 wr ∧ ∀ b, v12.ownBlock = some b → b = lb ∨ w8.heap.size ≤ b) (fun _ v95 _ => q.kids.length - (intOf v95).toNat)
      case atStart => exact ⟨0, L1, Nat.zero_le _, rfl, HBk.out, HVp.out.below ((Below.refl _ _).alloc (Nat.le_refl _) _), HKp.out.alloc _, HVb.out⟩
      case round =>
       obtain ⟨wq, hwq⟩ : ∃ wq : World, wq = wr := ⟨_, rfl⟩
       subst hwq
       obtain ⟨b, L2, hbk, rfl, hBk2, hVq, hKq, hvb2⟩ := hrel
       have HBk2 := Lib.hid hBk2
       have HVq := Lib.hid hVq
       have HKq := Lib.hid hKq
       have HVb2 := Lib.hid hvb2
       obtain ⟨A2, cv2, rfl, _⟩ := hVq.ls.form
       clear hBk2 hVq hKq hvb2
       by_cases hblt : b < q.kids.length
       ·obtain ⟨x, hx⟩ := get_some hblt
        obtain ⟨b2, o2, rfl, hZ2, hb2, hxok, q0, q1, q2, q3⟩ := HEq.out.nkey hx
        have hnx2 : ¬ (b2 = SM ∨ b2 = lb) := by have := HPo.out; omega
        have HX := Lib.hid hx
        have HXok := Lib.hid hxok
        have s0 : wq.cell? ⟨b2, o2 + b * 4, none⟩ = some (.bool x.sym.term) := (HKq.out.cell (p := ⟨b2, o2 + b * 4, none⟩) hb2 hnx2).trans q0
        have s1 : wq.cell? ⟨b2, o2 + b * 4 + 1, none⟩ = some (.int .i64 x.sym.n) := (HKq.out.cell (p := ⟨b2, o2 + b * 4 + 1, none⟩) hb2 hnx2).trans q1
        have s2 : wq.cell? ⟨b2, o2 + b * 4 + 2, none⟩ = some (.int .i64 (x.fr : Int)) := (HKq.out.cell (p := ⟨b2, o2 + b * 4 + 2, none⟩) hb2 hnx2).trans q2
        have s3 : wq.cell? ⟨b2, o2 + b * 4 + 3, none⟩ = some (.int .i64 (x.to : Int)) := (HKq.out.cell (p := ⟨b2, o2 + b * 4 + 3, none⟩) hb2 hnx2).trans q3
        have zb2 : b2 < wq.heap.size := Nat.lt_of_lt_of_le hb2 HKq.out.size
        have hb0 : (0 : Int) ≤ (b : Int) := by omega
        have hb9 : (b : Int) < (q.kids.length : Int) := by omega
        clear q0 q1 q2 q3 hx hxok
        go_upto_region 22 with (fail)
        clear s0 s1 s2 s3
        obtain ⟨X20, hX20⟩ : ∃ b, b = wq.heap.size := ⟨_, rfl⟩
        rw [← hX20]
        obtain ⟨w10, hw10⟩ : ∃ w10 : World, w10 = wq.alloc (.cells #[.bool x.sym.term, .int .i64 x.sym.n, .int .i64 (x.fr : Int), .int .i64 (x.to : Int)] 194) := ⟨_, rfl⟩
        rw [← hw10]
        have hb10 : Below wq.heap.size wq w10 := by rw [hw10]; exact (Below.refl _ _).alloc (Nat.le_refl _) _
        have HX10 : Hid (Blk' w10 X20 194 #[.bool x.sym.term, .int .i64 x.sym.n, .int .i64 (x.fr : Int), .int .i64 (x.to : Int)]) := Lib.hid (by rw [hw10, hX20]; exact Blk'.new _ _ _)
        have HV10 := Lib.hid (HVq.out.below hb10)
        have HK10 := Lib.hid (HKq.out.below hb10)
        have HX2 : Hid (wq.heap.size ≤ X20) := Lib.hid (by omega)
        have s0 : w10.cell? ⟨X20, 0, none⟩ = some (.bool x.sym.term) := HX10.out.cell 0
        have s1 : w10.cell? ⟨X20, 1, none⟩ = some (.int .i64 x.sym.n) := HX10.out.cell 1
        have s2 : w10.cell? ⟨X20, 2, none⟩ = some (.int .i64 (x.fr : Int)) := HX10.out.cell 2
        have s3 : w10.cell? ⟨X20, 3, none⟩ = some (.int .i64 (x.to : Int)) := HX10.out.cell 3
        have zX : X20 < w10.heap.size := HX10.out.lt
        have hlook := HV10.out.sm.look Tryd.underlying199 (zeroB _) HXok.out
        clear hb10 hw10 hX20
        by_cases hin : x ∈ L2
        ·rw [decide_eq_true hin] at hlook
         have hlook2 : (Instr.lookup 199 (.map (some SM)) (.agg #[.bool x.sym.term, .int .i64 x.sym.n, .int .i64 (x.fr : Int), .int .i64 (x.to : Int)]) false).run Tryd.prog w10 = .ok (.bool true) w10 := hlook
         clear hlook
         go_wp2_with fail
         go_roundw
         case rel => exact ⟨b + 1, L2, by omega, by go_num, by rw [take_snoc HX.out]; exact HBk2.out.hit hin, HV10.out, HK10.out, HVb2.out⟩
         case measure => simp [intOf]; omega
        ·rw [decide_eq_false hin] at hlook
         have hlook2 : (Instr.lookup 199 (.map (some SM)) (.agg #[.bool x.sym.term, .int .i64 x.sym.n, .int .i64 (x.fr : Int), .int .i64 (x.to : Int)]) false).run Tryd.prog w10 = .ok (.bool false) w10 := hlook
         have hl2 : L2.length ≤ 3042 := keys_bound (by have := HV.out.t8; dsimp only at this; omega) hn10 hm HBk2.out.nodup HBk2.out.key
         obtain ⟨w11, hrun, hM11, hg11⟩ := HV10.out.sm.put Tryd.underlying199 (by simp [maxLen]; omega) HXok.out (.bool true)
         have hrun2 : (Instr.mapUpdate 199 (.map (some SM)) (.agg #[.bool x.sym.term, .int .i64 x.sym.n, .int .i64 (x.fr : Int), .int .i64 (x.to : Int)]) (.bool true)).run Tryd.prog w10 = .ok () w11 := hrun
         have kk11 : Kept (fun b => b = SM) w10 w11 := Kept.of_grown hg11 (fun b hb => by injection hb with hb; exact hb.symm)
         have HV11 := Lib.hid (HV10.out.seen hg11 hM11)
         have HK11 := Lib.hid (HK10.out.later kk11 (fun b hb => .inl (.inl hb)))
         have hxs : X20 ≠ SM := by have := HX2.out; have := HVq.out.sm.lt; omega
         have HX11 := Lib.hid (HX10.out.kept kk11 hxs)
         have t0 : w11.cell? ⟨X20, 0, none⟩ = some (.bool x.sym.term) := HX11.out.cell 0
         have t1 : w11.cell? ⟨X20, 1, none⟩ = some (.int .i64 x.sym.n) := HX11.out.cell 1
         have t2 : w11.cell? ⟨X20, 2, none⟩ = some (.int .i64 (x.fr : Int)) := HX11.out.cell 2
         have t3 : w11.cell? ⟨X20, 3, none⟩ = some (.int .i64 (x.to : Int)) := HX11.out.cell 3
         have zX1 : X20 < w11.heap.size := HX11.out.lt
         have HO12 := Lib.hid (HV11.out.ls.below (B := w11.heap.size) ((Below.refl _ _).alloc (Nat.le_refl _) (.cells #[.bool x.sym.term, .int .i64 x.sym.n, .int .i64 (x.fr : Int), .int .i64 (x.to : Int)] 194)) (Nat.le_refl _))
         have hcap1 : (L2.length + 1) * 32 ≤ 140737488355328 := by omega
         have hcap2 : L2.length + 1 ≤ 9223372036854775807 := by omega
         have HBas : Hid (LB ≤ (w11.alloc (.cells #[.bool x.sym.term, .int .i64 x.sym.n, .int .i64 (x.fr : Int), .int .i64 (x.to : Int)] 194)).heap.size) := Lib.hid (by have h1 := HV11.out.hs; have h2 := HZ6.out; simp; omega)
         clear hlook hrun hM11 hg11 kk11 hxs
         go_wp2_with ((at_builtin); (refine wpList_ox1 _ rfl _ _ elemNKey rfl rfl HO12.out x [.bool x.sym.term, .int .i64 x.sym.n, .int .i64 (x.fr : Int), .int .i64 (x.to : Int)] rfl (At.new _ _ _) ⟨rfl, HXok.out⟩ hcap1 hcap2 HBas.out ?_); (intro v' w13 hown13 hg13 hat13); (obtain ⟨A13, c13, hv13, _, _, _⟩ := hown13.form); (rw [snoc_len] at hv13); (subst hv13); (have H13 := Lib.hid (And.intro hown13 (And.intro hg13 hat13))); (clear hown13 hg13 hat13))
         go_roundw
         case rel =>
          obtain ⟨hown, hg13, hat⟩ := H13.out
          have hba : Below w11.heap.size w11 (w11.alloc (.cells #[.bool x.sym.term, .int .i64 x.sym.n, .int .i64 (x.fr : Int), .int .i64 (x.to : Int)] 194)) := (Below.refl _ _).alloc (Nat.le_refl _) _
          have hvv := (HV11.out.below hba).push hown hg13 hat
          have hkk : Kept (fun b => b = SM ∨ b = lb) w8 w13 := (HK11.out.below hba).grown hg13 (fun b hb => by
           rcases HVb2.out b hb with h | h
           ·exact .inl (.inr h)
           ·exact .inr h)
          refine ⟨b + 1, L2 ++ [x], by omega, by go_num, by rw [take_snoc HX.out]; exact HBk2.out.add hin (HKd.out _ (List.mem_of_getElem? HPa.out) x (List.mem_of_getElem? HX.out)), hvv, hkk, fun b hb => ?_⟩
          rcases hat with e | e
          ·exact HVb2.out b (e ▸ hb)
          ·rw [e] at hb; injection hb with hb; have := HK11.out.size; simp at hb; exact .inr (by omega)
         case measure => simp [intOf]; omega
       ·have hbb : b = q.kids.length := by omega
        go_wp2_with fail
        go_roundw
        case rel => exact ⟨a + 1, L2, by omega, by go_num, HBk2.out.pack HPa.out (by rw [hbb, List.take_length]), HVq.out, HKq.out, HVb2.out⟩
        case measure => simp [intOf]; omega
     ·have haa : a = pk.length := by omega
      go_wp2_with fail
      go_roundw
      case rel =>
       have hBn := BfK.node HL.out HKx.out (L' := L1) (by rw [← HP.out, HPl.out, ← haa]; exact HBk.out)
       have htk : L1.take (i + 1) = L.take (i + 1) := by
        obtain ⟨E, hE⟩ := HBk.out.pre
        rw [← hE, List.take_append_of_le_length (by omega)]
       refine ⟨i + 1, L1, c2, by go_num, by rw [HC2.out, Int.natCast_add], hc3, hBn, by rw [htk]; exact HVp.out, HK8.out.later HKp.out (fun b hb => ?_)⟩
       have := HLb.out
       rcases hb with hb | hb
       ·exact .inl (.inr (.inr hb))
       ·rcases this with h | h
        ·exact .inl (.inr (.inl (by omega)))
        ·exact .inr (by omega)
      case measure => simp [intOf]; omega
   ·have hll : i = L.length := by omega
    subst hll
    obtain ⟨r0, hr0⟩ := List.mem_iff_getElem?.1 HL.out.root
    obtain ⟨lb, cl, rfl, hcl1, hcl2, zL, hokq, hq0, hq1, hq2, hq3⟩ := HVo.out.at_ hr0
    have hrow := HVo.out.row
    have HC := Lib.hid (sortK_any wo L lb cl hrow.1 hrow.2 zL (by omega))
    have HLb : Hid (lb = LB ∨ w6.heap.size ≤ lb) := Lib.hid (HVo.out.vb lb rfl)
    clear hokq hq0 hq1 hq2 hq3 hr0 r0 hrow
    go_wp2_with fail
    refine HC.out.mono ?_
    rintro e w20 ⟨rfl, ys, hys, hat, hk20⟩
    have HYs := Lib.hid hys
    have HNd : Hid ys.Nodup := Lib.hid (hys.nodup_iff.2 HL.out.nodup)
    have HRoot : Hid ((⟨⟨false, (y : Int)⟩, 0, ws.length⟩ : NKey) ∈ ys) := Lib.hid (hys.mem_iff.2 HL.out.root)
    have HGood : Hid (∀ k ∈ ys, KeyIn tm n ws T k) := Lib.hid (fun k hk => HL.out.key k (hys.mem_iff.1 hk))
    have HKd : Hid (∀ k ∈ ys, KidsIn ⟨(tm : Int), (n : Int), (y : Int), rs⟩ ws T ys k) := Lib.hid (fun k hk p hp x hx => hys.mem_iff.2 (HL.out.done k (by rw [List.take_length]; exact hys.mem_iff.1 hk) p hp x hx))
    have hyl : ys.length = L.length := hys.length_eq
    rw [← hyl]
    have hyl2 : ys.length ≤ 3042 := by omega
    have HYl := Lib.hid hyl
    have HK20 : Hid (Kept (fun b => b = PM ∨ b = LB ∨ b = SM) w6 w20) := Lib.hid (HK.out.later hk20 (fun b hb => by have := HLb.out; have e : b = lb := hb; rcases this with h | h; exact .inl (.inr (.inl (by omega))); exact .inr (by omega)))
    obtain ⟨Z0, X0, hX1, hX2, hX3⟩ := HVo.out.pm
    have hpl : PM ≠ lb := fun e => HVo.out.vp (by rw [e]; rfl)
    have HPm : Hid (KeyM w20 PM L.length nilV X0) := Lib.hid (by have h := hX1.kept hk20 hpl; rwa [List.take_length] at h)
    have HVl : Hid (∀ k ∈ ys, Vl w20 Z0 (packsK ⟨(tm : Int), (n : Int), (y : Int), rs⟩ ws T k) (X0 k)) := Lib.hid (fun k hk => (hX2 k (by rw [List.take_length]; exact hys.mem_iff.1 hk)).kept hk20 (fun b hb e => (hX3 b hb).2.2.1 (by rw [show b = lb from e]; rfl)))
    have HZz : Hid (∀ b, Z0 b → b < w20.heap.size) := Lib.hid (fun b hb => Nat.lt_of_lt_of_le (hX3 b hb).2.2.2 hk20.size)
    have HAt : Hid (∀ (i : Nat) (x : NKey), ys[i]? = some x → At w20 lb (i * 4) (keyC x)) := Lib.hid hat
    have zL20 : lb < w20.heap.size := Nat.lt_of_lt_of_le zL hk20.size
    have HOk : Hid (∀ k ∈ ys, KeyOk k) := Lib.hid (fun k hk => keyOk_in (HGood.out k hk) (by have := HV.out.t8; dsimp only at this; omega) hn10 hm)
    have HF20 := Lib.hid (HF6.out.kept HK20.out (by have := HZ6.out; omega))
    have HR20 := Lib.hid (HRk6.out.kept HK20.out (by have := HZ6.out; omega))
    have HB20 : Hid (Below w.heap.size w w20) := Lib.hid (HK20.out.to_below' HB6.out HZ6.out)
    have HZ20 : Hid (w.heap.size + 2 ≤ RB ∧ RB < w20.heap.size ∧ PM < w20.heap.size ∧ lb < w20.heap.size) := Lib.hid (by have := HZ6.out; have := HK20.out.size; omega)
    clear hys hat hk20 hX1 hX2 hX3 hpl hyl HC HL HVo HK HLb hct hcl1 hcl2 zL zL20 hiL hlt hLl
    go_upto_region 29 with (fail)
    obtain ⟨NM, hNM⟩ : ∃ b, b = w20.heap.size := ⟨_, rfl⟩
    rw [← hNM]
    obtain ⟨w21, hw21⟩ : ∃ w21 : World, w21 = w20.alloc (.map #[] 0) := ⟨_, rfl⟩
    rw [← hw21]
    have hb21 : Below w20.heap.size w20 w21 := by rw [hw21]; exact (Below.refl _ _).alloc (Nat.le_refl _) _
    have HM21 : Hid (KeyM w21 NM 0 (.int .i64 0) (numV ys 0)) := Lib.hid (by
     have h : KeyM w21 NM 0 (.int .i64 0) (fun _ => .int .i64 0) := by rw [hw21, hNM]; exact KeyM.made _ _
     exact h.iff (fun k _ => by unfold numV; simp))
    have HB21 := Lib.hid hb21
    have HNm : Hid (NM = w20.heap.size ∧ NM < w21.heap.size) := Lib.hid ⟨hNM, HM21.out.lt⟩
    clear hw21 hNM hb21
    go_wp2_with fail
    go_loopw [116] (fun v116 wr => ∃ j : Nat, j ≤ ys.length ∧ v116 = .int .i64 j ∧ KeyM wr NM j (.int .i64 0) (numV ys j) ∧ Kept (fun b => b = NM) w21 wr) (fun v116 _ => ys.length - (intOf v116).toNat)
    case atStart => exact ⟨0, Nat.zero_le _, rfl, HM21.out, Kept.refl _ _⟩
    case round =>
     obtain ⟨wp, hwp⟩ : ∃ wp : World, wp = wr := ⟨_, rfl⟩
     subst hwp
     obtain ⟨j, hjy, rfl, hMp, hKp⟩ := hrel
     have HMp := Lib.hid hMp
     have HKp := Lib.hid hKp
     have HBp : Hid (Below w20.heap.size w20 wp) := Lib.hid (HB21.out.trans (hKp.to_below (fun b hb => by have := HNm.out; omega) HB21.out.size))
     clear hMp hKp
     by_cases hlt : j < ys.length
     ·obtain ⟨x, hx⟩ := get_some hlt
      have HX := Lib.hid hx
      have hxok := HOk.out x (List.mem_of_getElem? hx)
      have HXok := Lib.hid hxok
      have hax := (HAt.out j x hx).keep (fun p hp => HBp.out.cell (by rw [hp]; exact HZ20.out.2.2.2))
      have s0 : wp.cell? ⟨lb, j * 4, none⟩ = some (.bool x.sym.term) := hax.c0
      have s1 : wp.cell? ⟨lb, j * 4 + 1, none⟩ = some (.int .i64 x.sym.n) := hax.c1
      have s2 : wp.cell? ⟨lb, j * 4 + 2, none⟩ = some (.int .i64 (x.fr : Int)) := hax.c2
      have s3 : wp.cell? ⟨lb, j * 4 + 3, none⟩ = some (.int .i64 (x.to : Int)) := hax.c3
      have zl : lb < wp.heap.size := Nat.lt_of_lt_of_le HZ20.out.2.2.2 HBp.out.size
      have hj0 : (0 : Int) ≤ (j : Int) := by omega
      have hj9 : (j : Int) < (ys.length : Int) := by omega
      clear hx hxok hax
      go_upto_region 32 with (fail)
      clear s0 s1 s2 s3
      obtain ⟨X20, hX20⟩ : ∃ b, b = wp.heap.size := ⟨_, rfl⟩
      rw [← hX20]
      obtain ⟨w10, hw10⟩ : ∃ w10 : World, w10 = wp.alloc (.cells #[.bool x.sym.term, .int .i64 x.sym.n, .int .i64 (x.fr : Int), .int .i64 (x.to : Int)] 194) := ⟨_, rfl⟩
      rw [← hw10]
      have hb10 : Below wp.heap.size wp w10 := by rw [hw10]; exact (Below.refl _ _).alloc (Nat.le_refl _) _
      have HX10 : Hid (Blk' w10 X20 194 #[.bool x.sym.term, .int .i64 x.sym.n, .int .i64 (x.fr : Int), .int .i64 (x.to : Int)]) := Lib.hid (by rw [hw10, hX20]; exact Blk'.new _ _ _)
      have s0 : w10.cell? ⟨X20, 0, none⟩ = some (.bool x.sym.term) := HX10.out.cell 0
      have s1 : w10.cell? ⟨X20, 1, none⟩ = some (.int .i64 x.sym.n) := HX10.out.cell 1
      have s2 : w10.cell? ⟨X20, 2, none⟩ = some (.int .i64 (x.fr : Int)) := HX10.out.cell 2
      have s3 : w10.cell? ⟨X20, 3, none⟩ = some (.int .i64 (x.to : Int)) := HX10.out.cell 3
      have zX : X20 < w10.heap.size := HX10.out.lt
      obtain ⟨w11, hrun, hM11, hg11⟩ := (HMp.out.below hb10).put Tryd.underlying206 (by simp [maxLen]; omega) HXok.out (.int .i64 (j : Int))
      have hrun2 : (Instr.mapUpdate 206 (.map (some NM)) (.agg #[.bool x.sym.term, .int .i64 x.sym.n, .int .i64 (x.fr : Int), .int .i64 (x.to : Int)]) (.int .i64 (j : Int))).run Tryd.prog w10 = .ok () w11 := hrun
      have HM11 := Lib.hid (hM11.iff (fun k _ => numV_step HNd.out HX.out k))
      have HK11 : Hid (Kept (fun b => b = NM) w21 w11) := Lib.hid ((HKp.out.below hb10).later (Kept.of_grown (X := fun b => b = NM) hg11 (fun b hb => by injection hb with hb; exact hb.symm)) (fun b hb => .inl hb))
      clear hb10 hw10 hX20 hrun hM11 hg11
      go_wp2_with fail
      go_roundw
      case rel => exact ⟨j + 1, hlt, by go_num, HM11.out, HK11.out⟩
      case measure => simp [intOf]; omega
     ·have hjj : j = ys.length := by omega
      subst hjj
      obtain ⟨r, hnr, hyr, hrl⟩ := numV_full HNd.out HRoot.out
      have HRk := Lib.hid (HR20.out.below HBp.out HR20.out.lt)
      have r4 : wp.cell? ⟨RB, 0, none⟩ = some (.bool false) := HRk.out.cell 0
      have r5 : wp.cell? ⟨RB, 1, none⟩ = some (.int .i64 (y : Int)) := HRk.out.cell 1
      have r6 : wp.cell? ⟨RB, 2, none⟩ = some (.int .i64 0) := HRk.out.cell 2
      have r7 : wp.cell? ⟨RB, 3, none⟩ = some (.int .i64 (ws.length : Int)) := HRk.out.cell 3
      have zR : RB < wp.heap.size := HRk.out.lt
      have hlook := HMp.out.look Tryd.underlying206 (zeroI _) (HOk.out _ HRoot.out)
      rw [hnr] at hlook
      have hlook2 : (Instr.lookup 206 (.map (some NM)) (.agg #[.bool false, .int .i64 (y : Int), .int .i64 0, .int .i64 (ws.length : Int)]) false).run Tryd.prog wp = .ok (.int .i64 (r : Int)) wp := hlook
      have HYr := Lib.hid hyr
      clear hlook hnr hyr
      go_upto_region 35 with (fail)
      obtain ⟨FO, hFO⟩ : ∃ b, b = wp.heap.size := ⟨_, rfl⟩
      rw [← hFO]
      obtain ⟨w30, hw30⟩ : ∃ w30 : World, w30 = wp.alloc (.cells #[.slice none 0 0, .int .i64 (r : Int)] 104) := ⟨_, rfl⟩
      rw [← hw30]
      have hb30 : Below wp.heap.size wp w30 := by rw [hw30]; exact (Below.refl _ _).alloc (Nat.le_refl _) _
      have HFo30 : Hid (Blk' w30 FO 104 #[.slice none 0 0, .int .i64 (r : Int)]) := Lib.hid (by rw [hw30, hFO]; exact Blk'.new _ _ _)
      have HN30 := Lib.hid (HMp.out.below hb30)
      have HB30x : Hid (Below w20.heap.size w20 w30) := Lib.hid (bthen HBp.out hb30 HBp.out.size)
      have HZ30 : Hid (w20.heap.size ≤ FO ∧ FO < w30.heap.size ∧ NM < FO) := Lib.hid ⟨by have := HBp.out.size; omega, HFo30.out.lt, by have := HMp.out.lt; omega⟩
      clear r4 r5 r6 r7 zR hlook2 hw30 hb30 hFO HMp HKp HBp HRk hjy hlt
      go_wp2_with fail
      go_loopw [131] (fun v131 wr => ∃ (j : Nat) (F : List FNode) (vF : Value) (Z : Nat → Prop), j ≤ ys.length ∧ v131 = .int .i64 j ∧ Rel2 (NodeIs ⟨(tm : Int), (n : Int), (y : Int), rs⟩ ws T ys) F (ys.take j) ∧ Blk' wr FO 104 #[vF, .int .i64 (r : Int)] ∧ OwnX wr Z w30.heap.size 153 vF F ∧ (∀ b, Z b → w30.heap.size ≤ b) ∧ Kept (fun b => b = FO) w30 wr) (fun v131 _ => ys.length - (intOf v131).toNat)
      case atStart => exact ⟨0, [], _, fun _ => False, Nat.zero_le _, rfl, .nil, HFo30.out, OwnX.nil _ _ _ _ (fun b h => h.elim), fun b h => h.elim, Kept.refl _ _⟩
      case round =>
       obtain ⟨wm, hwm⟩ : ∃ wm : World, wm = wr := ⟨_, rfl⟩
       subst hwm
       obtain ⟨j, F, vF, Z, hjy, rfl, hF, hFo, hO, hZ, hKm⟩ := hrel
       have HF := Lib.hid hF
       have HFo := Lib.hid hFo
       have HO := Lib.hid hO
       have HZ := Lib.hid hZ
       have HKm := Lib.hid hKm
       have HBm : Hid (Below w20.heap.size w20 wm) := Lib.hid (HB30x.out.trans (hKm.to_below (fun b hb => by have := HZ30.out; omega) HB30x.out.size))
       clear hF hFo hO hZ hKm
       by_cases hlt : j < ys.length
       ·obtain ⟨x, hx⟩ := get_some hlt
        have HX := Lib.hid hx
        have HXm := Lib.hid (List.mem_of_getElem? hx)
        have hax := (HAt.out j x hx).keep (fun p hp => HBm.out.cell (by rw [hp]; exact HZ20.out.2.2.2))
        have s0 : wm.cell? ⟨lb, j * 4, none⟩ = some (.bool x.sym.term) := hax.c0
        have s1 : wm.cell? ⟨lb, j * 4 + 1, none⟩ = some (.int .i64 x.sym.n) := hax.c1
        have s2 : wm.cell? ⟨lb, j * 4 + 2, none⟩ = some (.int .i64 (x.fr : Int)) := hax.c2
        have s3 : wm.cell? ⟨lb, j * 4 + 3, none⟩ = some (.int .i64 (x.to : Int)) := hax.c3
        have zl : lb < wm.heap.size := Nat.lt_of_lt_of_le HZ20.out.2.2.2 HBm.out.size
        have hj0 : (0 : Int) ≤ (j : Int) := by omega
        have hj9 : (j : Int) < (ys.length : Int) := by omega
        clear hx hax
        go_upto_region 38 with (fail)
        clear s0 s1 s2 s3
        obtain ⟨B26, hB26⟩ : ∃ b, b = wm.heap.size := ⟨_, rfl⟩
        rw [← hB26]
        obtain ⟨w31, hw31⟩ : ∃ w31 : World, w31 = wm.alloc (.cells #[.bool x.sym.term, .int .i64 x.sym.n, .int .i64 (x.fr : Int), .int .i64 (x.to : Int)] 194) := ⟨_, rfl⟩
        rw [← hw31]
        have hb31 : Below wm.heap.size wm w31 := by rw [hw31]; exact (Below.refl _ _).alloc (Nat.le_refl _) _
        have h26 : Blk' w31 B26 194 #[.bool x.sym.term, .int .i64 x.sym.n, .int .i64 (x.fr : Int), .int .i64 (x.to : Int)] := by rw [hw31, hB26]; exact Blk'.new _ _ _
        have s0 : w31.cell? ⟨B26, 0, none⟩ = some (.bool x.sym.term) := h26.cell 0
        have s1 : w31.cell? ⟨B26, 1, none⟩ = some (.int .i64 x.sym.n) := h26.cell 1
        have s2 : w31.cell? ⟨B26, 2, none⟩ = some (.int .i64 (x.fr : Int)) := h26.cell 2
        have s3 : w31.cell? ⟨B26, 3, none⟩ = some (.int .i64 (x.to : Int)) := h26.cell 3
        have z26 : B26 < w31.heap.size := h26.lt
        have HB31 := Lib.hid hb31
        have H26 := Lib.hid h26
        have HZ31 : Hid (B26 = wm.heap.size ∧ w31.heap.size = wm.heap.size + 1) := Lib.hid ⟨hB26, by rw [hw31]; simp⟩
        clear hb31 h26 hw31 hB26
        go_upto_region 39 with (fail)
        clear s0 s1 s2 s3 z26
        obtain ⟨B27, hB27⟩ : ∃ b, b = w31.heap.size := ⟨_, rfl⟩
        rw [← hB27]
        obtain ⟨w32, hw32⟩ : ∃ w32 : World, w32 = w31.alloc (.cells #[.bool x.sym.term, .int .i64 x.sym.n, .int .i64 (x.fr : Int), .int .i64 (x.to : Int), .slice none 0 0] 153) := ⟨_, rfl⟩
        rw [← hw32]
        have hb32 : Below w31.heap.size w31 w32 := by rw [hw32]; exact (Below.refl _ _).alloc (Nat.le_refl _) _
        have H27 : Hid (Blk' w32 B27 153 #[.bool x.sym.term, .int .i64 x.sym.n, .int .i64 (x.fr : Int), .int .i64 (x.to : Int), .slice none 0 0]) := Lib.hid (by rw [hw32, hB27]; exact Blk'.new _ _ _)
        have HZ32 : Hid (B27 = wm.heap.size + 1 ∧ B27 < w32.heap.size ∧ w30.heap.size ≤ wm.heap.size) := Lib.hid ⟨by have := HZ31.out; omega, H27.out.lt, HKm.out.size⟩
        have HB32 : Hid (Below wm.heap.size wm w32) := Lib.hid (bthen HB31.out hb32 HB31.out.size)
        have H26b := H26.out.below hb32 H26.out.lt
        have s0 : w32.cell? ⟨B26, 0, none⟩ = some (.bool x.sym.term) := H26b.cell 0
        have s1 : w32.cell? ⟨B26, 1, none⟩ = some (.int .i64 x.sym.n) := H26b.cell 1
        have s2 : w32.cell? ⟨B26, 2, none⟩ = some (.int .i64 (x.fr : Int)) := H26b.cell 2
        have s3 : w32.cell? ⟨B26, 3, none⟩ = some (.int .i64 (x.to : Int)) := H26b.cell 3
        have z26 : B26 < w32.heap.size := H26b.lt
        have HB20m : Hid (Below w20.heap.size w20 w32) := Lib.hid (bthen HBm.out HB32.out HBm.out.size)
        have hlook := (HPm.out.below HB20m.out).look Tryd.underlying197 (zeroPacks _) (HOk.out x HXm.out)
        obtain ⟨pk, hpk⟩ : ∃ pk, pk = packsK ⟨(tm : Int), (n : Int), (y : Int), rs⟩ ws T x := ⟨_, rfl⟩
        obtain ⟨P, hP⟩ : ∃ P, P = packsL ⟨(tm : Int), (n : Int), (y : Int), rs⟩ ws T x := ⟨_, rfl⟩
        have HPm2 : Hid (pk = P.map toK) := Lib.hid (by rw [hpk, hP]; rfl)
        have HP := Lib.hid hP
        have hvx := HVl.out x HXm.out
        rw [← hpk] at hvx
        obtain ⟨Ap, cp, hXx, hcp1, hcp2, hEp⟩ := hvx.slice
        rw [hXx] at hlook
        have hlook2 : (Instr.lookup 197 (.map (some PM)) (.agg #[.bool x.sym.term, .int .i64 x.sym.n, .int .i64 (x.fr : Int), .int .i64 (x.to : Int)]) false).run Tryd.prog w32 = .ok (.slice Ap pk.length cp) w32 := hlook
        have HEp := Lib.hid hEp
        have HKx : Hid (x.to ≤ 12) := Lib.hid (Nat.le_trans (HGood.out x HXm.out).2.len hm)
        have HRl := Lib.hid (show rs.length ≤ 32 from HV.out.len)
        have HR4 : Hid (∀ q ∈ rs, q.right.length ≤ 4) := Lib.hid (fun q hq => (HV.out.rules q hq).2.2.1)
        have HPll : Hid (P.length = pk.length ∧ pk.length ≤ 913952) := Lib.hid ⟨by rw [HPm2.out, List.length_map], by rw [HPm2.out, List.length_map, hP]; exact packs_len _ _ _ _ HRl.out HR4.out HKx.out⟩
        clear hb32 hw32 hB27 H26b hlook hpk hP hvx hXx hcp1 hcp2 hEp
        have hpk9 : pk.length ≤ 913952 := HPll.out.2
        go_wp2_with fail
        clear hlook2 s0 s1 s2 s3 z26
        go_loopw [146] (fun v146 wr => ∃ (a : Nat) (fps : List FPack) (vK : Value) (Z6 : Nat → Prop), a ≤ pk.length ∧ v146 = .int .i64 a ∧ Rel2 (PackIs ys) fps (P.take a) ∧ Blk' wr B27 153 #[.bool x.sym.term, .int .i64 x.sym.n, .int .i64 (x.fr : Int), .int .i64 (x.to : Int), vK] ∧ OwnX wr Z6 w32.heap.size 155 vK fps ∧ (∀ b, Z6 b → w32.heap.size ≤ b) ∧ Kept (fun b => b = B27) w32 wr) (fun v146 _ => pk.length - (intOf v146).toNat)
        case atStart => exact ⟨0, [], _, fun _ => False, Nat.zero_le _, rfl, .nil, H27.out, OwnX.nil _ _ _ _ (fun b h => h.elim), fun b h => h.elim, Kept.refl _ _⟩
        case round =>
         obtain ⟨wn, hwn⟩ : ∃ wn : World, wn = wr := ⟨_, rfl⟩
         subst hwn
         obtain ⟨a, fps, vK, Z6, hapk, rfl, hFp, h27, hO6, hZ6, hKn⟩ := hrel
         have HFp := Lib.hid hFp
         have H27n := Lib.hid h27
         have HO6 := Lib.hid hO6
         have HZ6 := Lib.hid hZ6
         have HKn := Lib.hid hKn
         have HBn : Hid (Below w20.heap.size w20 wn) := Lib.hid (HB20m.out.trans (hKn.to_below (fun b hb => by have := HZ32.out; have := HZ30.out; omega) HB20m.out.size))
         clear hFp h27 hO6 hZ6 hKn
         by_cases halt : a < pk.length
         ·obtain ⟨q, hq⟩ := get_some halt
          obtain ⟨b1, o1, Aq, cq, rfl, hZ1, hb1, hri, hkc, hcq, hEq, q0, q1⟩ := HEp.out.kpack hq
          have hPa : P[a]? = some (q.rule, q.kids) := by
           have h := hq
           rw [HPm2.out, List.getElem?_map] at h
           cases hp : P[a]? with
           | none => rw [hp] at h; simp at h
           | some p => rw [hp] at h; simp [toK] at h; rw [← h]
          have HPa := Lib.hid hPa
          have HEq := Lib.hid hEq
          have HRi := Lib.hid hri
          have s0 : wn.cell? ⟨b1, o1 + a * 2, none⟩ = some (.int .i64 q.rule) := (HBn.out.cell (p := ⟨b1, o1 + a * 2, none⟩) hb1).trans q0
          have s1 : wn.cell? ⟨b1, o1 + a * 2 + 1, none⟩ = some (.slice Aq q.kids.length cq) := (HBn.out.cell (p := ⟨b1, o1 + a * 2 + 1, none⟩) hb1).trans q1
          have zb1 : b1 < wn.heap.size := Nat.lt_of_lt_of_le hb1 HBn.out.size
          have ha0 : (0 : Int) ≤ (a : Int) := by omega
          have ha1 : (a : Int) < (pk.length : Int) := by omega
          have HKl : Hid (q.kids.length ≤ 4) := Lib.hid (by
           obtain ⟨_, q', hq', _, hw⟩ := mem_packs.1 (HP.out ▸ List.mem_of_getElem? hPa)
           rw [way_len _ _ _ _ hw]
           exact HR4.out q' (List.mem_of_getElem? hq'))
          have HKi : Hid (∀ z ∈ q.kids, z ∈ ys) := Lib.hid (fun z hz => HKd.out x HXm.out (q.rule, q.kids) (HP.out ▸ List.mem_of_getElem? hPa) z hz)
          clear hq hPa hEq hri q0 q1
          go_upto_region 42 with (fail)
          clear s0 s1
          obtain ⟨B29, hB29⟩ : ∃ b, b = wn.heap.size := ⟨_, rfl⟩
          rw [← hB29]
          obtain ⟨w33, hw33⟩ : ∃ w33 : World, w33 = wn.alloc (.cells #[.int .i64 q.rule, .slice Aq q.kids.length cq] 203) := ⟨_, rfl⟩
          rw [← hw33]
          have hb33 : Below wn.heap.size wn w33 := by rw [hw33]; exact (Below.refl _ _).alloc (Nat.le_refl _) _
          have h29 : Blk' w33 B29 203 #[.int .i64 q.rule, .slice Aq q.kids.length cq] := by rw [hw33, hB29]; exact Blk'.new _ _ _
          have s0 : w33.cell? ⟨B29, 0, none⟩ = some (.int .i64 q.rule) := h29.cell 0
          have s1 : w33.cell? ⟨B29, 1, none⟩ = some (.slice Aq q.kids.length cq) := h29.cell 1
          have z29 : B29 < w33.heap.size := h29.lt
          have HB33 := Lib.hid hb33
          have H29 := Lib.hid h29
          have HZ33 : Hid (B29 = wn.heap.size ∧ w33.heap.size = wn.heap.size + 1) := Lib.hid ⟨hB29, by rw [hw33]; simp⟩
          clear hb33 h29 hw33 hB29
          go_upto_region 43 with (fail)
          clear s0 s1 z29
          obtain ⟨B30, hB30⟩ : ∃ b, b = w33.heap.size := ⟨_, rfl⟩
          rw [← hB30]
          obtain ⟨w34, hw34⟩ : ∃ w34 : World, w34 = w33.alloc (.cells #[.int .i64 q.rule, .slice none 0 0] 155) := ⟨_, rfl⟩
          rw [← hw34]
          have hb34 : Below w33.heap.size w33 w34 := by rw [hw34]; exact (Below.refl _ _).alloc (Nat.le_refl _) _
          have H30 : Hid (Blk' w34 B30 155 #[.int .i64 q.rule, .slice none 0 0]) := Lib.hid (by rw [hw34, hB30]; exact Blk'.new _ _ _)
          have HZ34 : Hid (B30 = wn.heap.size + 1 ∧ B30 < w34.heap.size) := Lib.hid ⟨by have := HZ33.out; omega, H30.out.lt⟩
          have HB34 : Hid (Below wn.heap.size wn w34) := Lib.hid (bthen HB33.out hb34 HB33.out.size)
          have H29b := H29.out.below hb34 H29.out.lt
          have s1 : w34.cell? ⟨B29, 1, none⟩ = some (.slice Aq q.kids.length cq) := H29b.cell 1
          have z29 : B29 < w34.heap.size := H29b.lt
          have HB20n : Hid (Below w20.heap.size w20 w34) := Lib.hid (bthen HBn.out HB34.out HBn.out.size)
          have HK34 : Hid (Kept (fun b => b = FO) w30 w34) := Lib.hid (((HKm.out.below HB32.out).later HKn.out (fun b hb => by have e : b = B27 := hb; have := HZ32.out; exact .inr (by omega))).below HB34.out)
          clear hb34 hw34 hB30 H29b
          go_wp2_with fail
          clear s1 z29
          go_loopw [156] (fun v156 wr => ∃ (t : Nat) (il : List Int) (vI : Value), t ≤ q.kids.length ∧ v156 = .int .i64 t ∧ Kids ys il (q.kids.take t) ∧ il.length = t ∧ Blk' wr B30 155 #[.int .i64 q.rule, vI] ∧ Own wr (fun _ => False) w34.heap.size 3 vI il ∧ Kept (fun b => b = B30) w34 wr) (fun v156 _ => q.kids.length - (intOf v156).toNat)
          case atStart => exact ⟨0, [], _, Nat.zero_le _, rfl, by unfold Kids; trivial, rfl, H30.out, Own.nil _ _ _ _, Kept.refl _ _⟩
          case round =>
           obtain ⟨wo, hwo⟩ : ∃ wo : World, wo = wr := ⟨_, rfl⟩
           subst hwo
           obtain ⟨t, il, vI, htk, rfl, hKd, hil, h30, hI, hKo⟩ := hrel
           have HKs := Lib.hid hKd
           have HIl := Lib.hid hil
           have H30o := Lib.hid h30
           have HI := Lib.hid hI
           have HKo := Lib.hid hKo
           have HK30o : Hid (Kept (fun b => b = FO) w30 wo) := Lib.hid (HK34.out.later hKo (fun b hb => by have e : b = B30 := hb; have := HZ34.out; have := HKn.out.size; have := HZ32.out; exact .inr (by omega)))
           have HBo : Hid (Below w20.heap.size w20 wo) := Lib.hid (HB30x.out.trans (HK30o.out.to_below (fun b hb => by have := HZ30.out; omega) HB30x.out.size))
           clear hKd hil h30 hI hKo
           by_cases htlt : t < q.kids.length
           ·obtain ⟨z, hz⟩ := get_some htlt
            obtain ⟨b2, o2, rfl, hZ2, hb2, hzok, q0, q1, q2, q3⟩ := HEq.out.nkey hz
            have HZk := Lib.hid hz
            have HZok := Lib.hid hzok
            obtain ⟨r2, hn2, hy2, hr2⟩ := numV_full HNd.out (HKi.out z (List.mem_of_getElem? hz))
            have Hn2 := Lib.hid hn2
            have Hy2 := Lib.hid hy2
            have s0 : wo.cell? ⟨b2, o2 + t * 4, none⟩ = some (.bool z.sym.term) := (HBo.out.cell (p := ⟨b2, o2 + t * 4, none⟩) hb2).trans q0
            have s1 : wo.cell? ⟨b2, o2 + t * 4 + 1, none⟩ = some (.int .i64 z.sym.n) := (HBo.out.cell (p := ⟨b2, o2 + t * 4 + 1, none⟩) hb2).trans q1
            have s2 : wo.cell? ⟨b2, o2 + t * 4 + 2, none⟩ = some (.int .i64 (z.fr : Int)) := (HBo.out.cell (p := ⟨b2, o2 + t * 4 + 2, none⟩) hb2).trans q2
            have s3 : wo.cell? ⟨b2, o2 + t * 4 + 3, none⟩ = some (.int .i64 (z.to : Int)) := (HBo.out.cell (p := ⟨b2, o2 + t * 4 + 3, none⟩) hb2).trans q3
            have zb2 : b2 < wo.heap.size := Nat.lt_of_lt_of_le hb2 HBo.out.size
            have ht0 : (0 : Int) ≤ (t : Int) := by omega
            have ht9 : (t : Int) < (q.kids.length : Int) := by omega
            have HR2 : Hid (I64 (r2 : Int)) := Lib.hid ⟨by omega, by omega⟩
            clear q0 q1 q2 q3 hz hzok hn2 hy2
            go_upto_region 46 with (fail)
            clear s0 s1 s2 s3
            obtain ⟨X32, hX32⟩ : ∃ b, b = wo.heap.size := ⟨_, rfl⟩
            rw [← hX32]
            obtain ⟨w35, hw35⟩ : ∃ w35 : World, w35 = wo.alloc (.cells #[.bool z.sym.term, .int .i64 z.sym.n, .int .i64 (z.fr : Int), .int .i64 (z.to : Int)] 194) := ⟨_, rfl⟩
            rw [← hw35]
            have hb35 : Below wo.heap.size wo w35 := by rw [hw35]; exact (Below.refl _ _).alloc (Nat.le_refl _) _
            have HX32 : Hid (Blk' w35 X32 194 #[.bool z.sym.term, .int .i64 z.sym.n, .int .i64 (z.fr : Int), .int .i64 (z.to : Int)]) := Lib.hid (by rw [hw35, hX32]; exact Blk'.new _ _ _)
            have HB30 := Lib.hid (H30o.out.below hb35 H30o.out.lt)
            have HI35 := Lib.hid (HI.out.below hb35 (Nat.le_refl _))
            have HN35 := Lib.hid ((HN30.out.kept HK30o.out (by have := HZ30.out; omega)).below hb35)
            have HB35 := Lib.hid hb35
            have HZ35 : Hid (X32 = wo.heap.size ∧ B30 < w34.heap.size ∧ w34.heap.size ≤ wo.heap.size ∧ wo.heap.size ≤ w35.heap.size ∧ NM < w34.heap.size ∧ X32 < w35.heap.size) := Lib.hid ⟨hX32, HZ34.out.2, HKo.out.size, hb35.size, by have := HZ30.out; have := HK34.out.size; omega, HX32.out.lt⟩
            have HV35 : Hid (∀ b, vI.ownBlock = some b → b < wo.heap.size) := Lib.hid (fun b hb => (HI.out.block b hb).2)
            have p1 : w35.cell? ⟨B30, 1, none⟩ = some vI := HB30.out.cell 1
            have zB : B30 < w35.heap.size := HB30.out.lt
            have y0 : w35.cell? ⟨X32, 0, none⟩ = some (.bool z.sym.term) := HX32.out.cell 0
            have y1 : w35.cell? ⟨X32, 1, none⟩ = some (.int .i64 z.sym.n) := HX32.out.cell 1
            have y2 : w35.cell? ⟨X32, 2, none⟩ = some (.int .i64 (z.fr : Int)) := HX32.out.cell 2
            have y3 : w35.cell? ⟨X32, 3, none⟩ = some (.int .i64 (z.to : Int)) := HX32.out.cell 3
            have zX : X32 < w35.heap.size := HX32.out.lt
            have hlk : (Instr.lookup 206 (.map (some NM)) (.agg #[.bool z.sym.term, .int .i64 z.sym.n, .int .i64 (z.fr : Int), .int .i64 (z.to : Int)]) false).run Tryd.prog w35.drew = .ok (.int .i64 (r2 : Int)) w35.drew := by
             have h := (HN35.out.below ((Below.refl _ _).drew)).look Tryd.underlying206 (zeroI _) HZok.out
             rw [Hn2.out] at h
             exact h
            clear hb35 hw35 hX32
            refine wp_region_noPanic ?_
            refine stage_start (S := (fun w' => w'.cell? ⟨B30, 1, none⟩ = some vI ∧ w'.cell? ⟨X32, 0, none⟩ = some (.bool z.sym.term) ∧ w'.cell? ⟨X32, 1, none⟩ = some (.int .i64 z.sym.n) ∧ w'.cell? ⟨X32, 2, none⟩ = some (.int .i64 (z.fr : Int)) ∧ w'.cell? ⟨X32, 3, none⟩ = some (.int .i64 (z.to : Int)) ∧ (Instr.lookup 206 (.map (some NM)) (.agg #[.bool z.sym.term, .int .i64 z.sym.n, .int .i64 (z.fr : Int), .int .i64 (z.to : Int)]) false).run Tryd.prog w' = .ok (.int .i64 (r2 : Int)) w')) 8 (by kernel_rfl) ?hm (fun hHeld => ?bm)
            case hm => ((try dsimp only); go_keep)
            refine st_pure (i := 0) (v := ?vm0) rfl (by kernel_rfl) (by kernel_rfl) (by kernel_rfl) (by kernel_rfl) (fun _ _ _ h => h) (by rfl) ?ym0 (.inl (by assumption)) ?rm0
            case ym0 => (intro w; go_simp; try with_reducible rfl)
            try simp only [Act.put, List.setIfInBounds_toArray, List.set_cons_zero, List.set_cons_succ]
            refine st_run (i := 1) (v := ?vm1) rfl (by kernel_rfl) (by kernel_rfl) (by kernel_rfl) (by kernel_rfl) (fun _ _ _ h => h) (by rfl) ?ym1 (by assumption) ?rm1
            case ym1 => (intro w hSw; (try dsimp only at hSw); go_simp; try with_reducible rfl)
            try simp only [Act.put, List.setIfInBounds_toArray, List.set_cons_zero, List.set_cons_succ]
            refine st_pure (i := 2) (v := ?vm2) rfl (by kernel_rfl) (by kernel_rfl) (by kernel_rfl) (by kernel_rfl) (fun _ _ _ h => h) (by rfl) ?ym2 (.inl (by assumption)) ?rm2
            case ym2 => (intro w; go_simp; try with_reducible rfl)
            try simp only [Act.put, List.setIfInBounds_toArray, List.set_cons_zero, List.set_cons_succ]
            refine st_run (i := 3) (v := ?vm3) rfl (by kernel_rfl) (by kernel_rfl) (by kernel_rfl) (by kernel_rfl) (fun _ _ _ h => h) (by rfl) ?ym3 (by assumption) ?rm3
            case ym3 => (intro w hSw; (try dsimp only at hSw); go_simp; try with_reducible rfl)
            try simp only [Act.put, List.setIfInBounds_toArray, List.set_cons_zero, List.set_cons_succ]
            refine st_run (i := 4) (v := ?vm4) rfl (by kernel_rfl) (by kernel_rfl) (by kernel_rfl) (by kernel_rfl) (fun _ _ _ h => h) (by rfl) ?ym4 (by assumption) ?rm4
            case ym4 => (intro w hSw; (try dsimp only at hSw); go_simp; try with_reducible rfl)
            try simp only [Act.put, List.setIfInBounds_toArray, List.set_cons_zero, List.set_cons_succ]
            refine st_one (i := 5) rfl (by kernel_rfl) (by rfl) (fun Kq hK => ?_)
            have hlkA : (Instr.lookup 206 (.map (some NM)) (.agg #[.bool z.sym.term, .int .i64 z.sym.n, .int .i64 (z.fr : Int), .int .i64 (z.to : Int)]) false).run Tryd.prog (w35.alloc (.cells #[.int .i64 (r2 : Int)] 3)).drew = .ok (.int .i64 (r2 : Int)) (w35.alloc (.cells #[.int .i64 (r2 : Int)] 3)).drew := by have h := ((HN35.out.below ((Below.refl _ _).alloc (Nat.le_refl _) (.cells #[.int .i64 (r2 : Int)] 3))).below ((Below.refl _ _).drew)).look Tryd.underlying206 (zeroI _) HZok.out; rw [Hn2.out] at h; exact h
            go_simp
            refine hK.out _ _ ?hm5 (fun hHeld => ?rm5)
            case hm5 => ((try dsimp only); go_keep)
            clear hK Kq
            try simp only [Act.put, List.setIfInBounds_toArray, List.set_cons_zero, List.set_cons_succ]
            refine st_one (i := 6) rfl (by kernel_rfl) (by rfl) (fun Kq hK => ?_)
            refine wp_own1 _ _ _ elemInt rfl rfl ((HI35.out.drew).alloc (.cells #[.int .i64 (r2 : Int)] 3)) (r2 : Int) [.int .i64 (r2 : Int)] rfl (At.new w35.drew [.int .i64 (r2 : Int)] 3) ⟨rfl, HR2.out⟩ (by rw [HIl.out]; have := HKl.out; omega) (by rw [HIl.out]; have := HKl.out; omega) (by have := HZ35.out; simp; omega) ?_
            intro v' w36 hO36 hg36 hat36
            obtain ⟨Aw, cw', ev, _, _, _⟩ := hO36.form
            rw [snoc_len, HIl.out] at ev
            subst ev
            have HO36 := Lib.hid hO36
            have hKg : Kept (fun b => vI.ownBlock = some b) (w35.drew.alloc (.cells #[.int .i64 (r2 : Int)] 3)) w36 := Kept.of_grown (X := fun b => vI.ownBlock = some b) hg36 (fun b hb => hb)
            have HKg := Lib.hid hKg
            have HB30b := Lib.hid ((HB30.out.drew.alloc (.cells #[.int .i64 (r2 : Int)] 3)).kept hKg (fun h => by have := (HI35.out.block _ h).1; have := HZ35.out; omega))
            have HX32b := Lib.hid ((HX32.out.drew.alloc (.cells #[.int .i64 (r2 : Int)] 3)).kept hKg (fun h => by have := HV35.out _ h; have := HZ35.out; omega))
            have p1b : w36.cell? ⟨B30, 1, none⟩ = some vI := HB30b.out.cell 1
            have fp1 := HB30b.out.frozen 1
            have zB36 : B30 < w36.heap.size := HB30b.out.lt
            have y0b : w36.cell? ⟨X32, 0, none⟩ = some (.bool z.sym.term) := HX32b.out.cell 0
            have y1b : w36.cell? ⟨X32, 1, none⟩ = some (.int .i64 z.sym.n) := HX32b.out.cell 1
            have y2b : w36.cell? ⟨X32, 2, none⟩ = some (.int .i64 (z.fr : Int)) := HX32b.out.cell 2
            have y3b : w36.cell? ⟨X32, 3, none⟩ = some (.int .i64 (z.to : Int)) := HX32b.out.cell 3
            have zX36 : X32 < w36.heap.size := HX32b.out.lt
            have hlk36 : (Instr.lookup 206 (.map (some NM)) (.agg #[.bool z.sym.term, .int .i64 z.sym.n, .int .i64 (z.fr : Int), .int .i64 (z.to : Int)]) false).run Tryd.prog w36 = .ok (.int .i64 (r2 : Int)) w36 := by have h := (((HN35.out.below ((Below.refl _ _).drew)).below ((Below.refl _ _).alloc (Nat.le_refl _) (.cells #[.int .i64 (r2 : Int)] 3))).kept hKg (fun h => by have := (HI35.out.block _ h).1; have := HZ35.out; omega)).look Tryd.underlying206 (zeroI _) HZok.out; rw [Hn2.out] at h; exact h
            clear hO36 hg36 hat36 hKg
            refine hK.out _ _ ?hm6 (fun hHeld => ?rm6)
            case hm6 => ((try dsimp only); go_keep)
            clear hK Kq
            try simp only [Act.put, List.setIfInBounds_toArray, List.set_cons_zero, List.set_cons_succ]
            refine st_pure (i := 7) (v := ?vm7) rfl (by kernel_rfl) (by kernel_rfl) (by kernel_rfl) (by kernel_rfl) (fun _ _ _ h => h) (by rfl) ?ym7 (.inl (by assumption)) ?rm7
            case ym7 => (intro w; go_simp; try with_reducible rfl)
            try simp only [Act.put, List.setIfInBounds_toArray, List.set_cons_zero, List.set_cons_succ]
            refine st_late (i := 8) rfl (by kernel_rfl) (by rfl) (by kernel_rfl) (fun Kq hK => ?_)
            go_simp
            refine hK.out _ _ ?_
            clear hK Kq
            try simp only [Act.put, List.setIfInBounds_toArray, List.set_cons_zero, List.set_cons_succ]
            refine wpAnyD_done (by kernel_rfl) ?_ _
            refine NoPanic.normal ?_
            go_wp2_with fail
            go_roundw
            case rel =>
             have hI9 := HO36.out.setCell (p := ⟨B30, 1, none⟩) (fun h => by have h1 := (HO36.out.block _ h).1; have := HZ35.out; dsimp only at h1; omega) (fun h => by have := HZ35.out; rcases h with h | h; exact h; dsimp only at h; omega) (.slice Aw (t + 1) cw')
             have hK9 : Kept (fun b => b = B30) w34 (w36.setCell ⟨B30, 1, none⟩ (.slice Aw (t + 1) cw')) := by
              refine Kept.setCell (X := fun b => b = B30) ?_ (p := ⟨B30, 1, none⟩) (.inl rfl) (.slice Aw (t + 1) cw')
              exact (((HKo.out.below HB35.out).drew).alloc (.cells #[.int .i64 (r2 : Int)] 3)).later HKg.out (fun b hb => .inr (HI35.out.block _ hb).1)
             exact ⟨t + 1, _, _, by omega, by go_num, by rw [take_snoc HZk.out]; exact HKs.out.snoc (by omega) (by rw [Int.toNat_natCast]; exact Hy2.out), by rw [snoc_len, HIl.out], HB30b.out.set_ 1 (.slice Aw (t + 1) cw'), hI9, hK9⟩
            case measure => simp [intOf]; omega
           ·have htt : t = q.kids.length := by omega
            subst htt
            have hfl : fps.length = a := by have h := HFp.out.length; rw [List.length_take, HPll.out.1] at h; omega
            have hvI := HI.out.vl
            have H27o := Lib.hid ((H27n.out.below HB34.out H27n.out.lt).kept HKo.out (by have := HZ34.out; have := HKn.out.size; have := HZ32.out; omega))
            have HOo := Lib.hid ((HO6.out.below HB34.out (Nat.le_refl _)).kept HKo.out (fun b hb => by
             have e : b = B30 := hb
             have := HZ34.out
             exact ⟨fun h => by have := (HO6.out.block b h).2; omega, fun h => by have := HO6.out.tlt b h; omega⟩))
            have HOm := Lib.hid (HOo.out.mono (T' := fun b => Z6 b ∨ (w34.heap.size ≤ b ∧ b < wo.heap.size)) (fun b hb => .inl hb) (fun b hb h => by
             have h1 := (HO6.out.block b hb).2
             have h2 := HB34.out.size
             rcases h with h | h
             ·obtain ⟨_, _, _, _, h4, _⟩ := HO6.out; exact h4 b hb h
             ·omega) (fun b hb => by rcases hb with h | h; exact HOo.out.tlt b h; exact h.2))
            have hal : Below wo.heap.size wo (wo.alloc (.cells #[.int .i64 q.rule, vI] 155)) := (Below.refl _ _).alloc (Nat.le_refl _) _
            have HOa := Lib.hid (HOm.out.below hal (Nat.le_refl _))
            have HRd : Hid (Dat.rd (wo.alloc (.cells #[.int .i64 q.rule, vI] 155)) (fun b => Z6 b ∨ (w34.heap.size ≤ b ∧ b < wo.heap.size)) (⟨(q.rule : Int), il⟩ : FPack) [.int .i64 q.rule, vI]) := Lib.hid ⟨vI, rfl, HRi.out, (hvI.below hal).mono (fun b hb => .inr ⟨hb.1.elim (fun h => h.elim) id, hb.2⟩)⟩
            have hcap1 : (fps.length + 1) * 32 ≤ 140737488355328 := by have := HPll.out; omega
            have hcap2 : fps.length + 1 ≤ 9223372036854775807 := by have := HPll.out; omega
            have HBas : Hid (w32.heap.size ≤ (wo.alloc (.cells #[.int .i64 q.rule, vI] 155)).heap.size) := Lib.hid (by have h1 := HKo.out.size; have h2 := HB34.out.size; have h3 := HKn.out.size; simp; omega)
            have HFl := Lib.hid hfl
            have HHa := Lib.hid hal
            have m4 : wo.cell? ⟨B27, 4, none⟩ = some vK := H27o.out.cell 4
            have m0 : wo.cell? ⟨B30, 0, none⟩ = some (.int .i64 q.rule) := H30o.out.cell 0
            have m1 : wo.cell? ⟨B30, 1, none⟩ = some vI := H30o.out.cell 1
            have zA : B27 < wo.heap.size := H27o.out.lt
            have zB : B30 < wo.heap.size := H30o.out.lt
            clear hfl hvI hal
            go_wp2_with ((at_builtin); (refine wpList_ox1 _ rfl _ _ elemFPack rfl rfl HOa.out (⟨(q.rule : Int), il⟩ : FPack) [.int .i64 q.rule, vI] rfl (At.new _ _ _) HRd.out hcap1 hcap2 HBas.out ?_); (intro v' w37 hown9 hg9 hat9); (obtain ⟨A9, c9, hv9, _, _, _⟩ := hown9.form); (rw [snoc_len] at hv9); (subst hv9); (have hX9 := (H27o.out.alloc (.cells #[.int .i64 q.rule, vI] 155)).grown hg9 (fun e => by have h9 := (HOo.out.block _ e.symm).1; have := HZ32.out; omega)); (have fz4 := hX9.frozen 4); (have mo4 : w37.cell? ⟨B27, 4, none⟩ = some vK := hX9.cell 4); (have zX9 := hX9.lt); (have H9 := Lib.hid (And.intro hown9 (And.intro hg9 (And.intro hX9 hat9)))); (clear hown9 hg9 hX9 hat9))
            go_roundw
            case rel =>
             obtain ⟨hown9, hg9, hX9, hat9⟩ := H9.out
             have hK9 : Kept (fun b => b = B27) w32 (w37.setCell ⟨B27, 4, none⟩ (.slice A9 (fps.length + 1) c9)) := by
              refine Kept.setCell (X := fun b => b = B27) ?_ (p := ⟨B27, 4, none⟩) (.inl rfl) (.slice A9 (fps.length + 1) c9)
              exact ((((HKn.out.below HB34.out).later HKo.out (fun b hb => by have e : b = B30 := hb; have := HZ34.out; have := HKn.out.size; exact .inr (by omega))).below HHa.out).grown hg9 (fun b hb => .inr (HOo.out.block b hb).1))
             refine ⟨a + 1, fps ++ [(⟨(q.rule : Int), il⟩ : FPack)], _, _, halt, by go_num, ?_, hX9.set_ 4 (.slice A9 (fps.length + 1) c9), hown9.setCell (p := ⟨B27, 4, none⟩) (fun e => ?_) (fun h => ?_) (.slice A9 (fps.length + 1) c9), fun b hb => ?_, hK9⟩
             ·rw [take_snoc HPa.out]
              exact HFp.out.snoc ⟨rfl, by have h := HKs.out; rwa [List.take_length] at h⟩
             ·have h1 := (hown9.block _ e).1
              have := HZ32.out
              dsimp only at h1
              omega
             ·have := HZ32.out
              dsimp only at h
              rcases h with h | h
              ·have := HZ6.out _ h; omega
              ·have := HB34.out.size; have := HKn.out.size; omega
             ·rcases hb with h | h
              ·exact HZ6.out b h
              ·have := HB34.out.size; have := HKn.out.size; omega
            case measure => simp [intOf]; omega
         ·have haa : a = pk.length := by omega
          subst haa
          have hPP : P.take pk.length = P := by rw [← HPll.out.1, List.take_length]
          have HFp2 : Hid (Rel2 (PackIs ys) fps P) := Lib.hid (hPP ▸ HFp.out)
          have HFl : Hid (fps.length = pk.length) := Lib.hid (by rw [HFp2.out.length, HPll.out.1])
          have HFk : Hid (∀ f ∈ fps, f.kids.length ≤ 4) := Lib.hid (fun f hf => by
           obtain ⟨b, hb, hpb⟩ := HFp2.out.mem hf
           rw [hpb.2.len]
           obtain ⟨_, q', hq', _, hw⟩ := mem_packs.1 (HP.out ▸ hb)
           rw [way_len _ _ _ _ hw]
           exact HR4.out q' (List.mem_of_getElem? hq'))
          have m4 : wn.cell? ⟨B27, 4, none⟩ = some vK := H27n.out.cell 4
          have zA : B27 < wn.heap.size := H27n.out.lt
          clear hPP hapk halt
          go_upto_region 50 with (fail)
          go_cut [] (fun wx => ∃ (Z' : Nat → Prop) (fs : List FPack), fs.Perm fps ∧ Vl wx Z' fs vK ∧ (∀ b, Z' b → w32.heap.size ≤ b ∧ b < wx.heap.size) ∧ Kept (fun b => vK.ownBlock = some b) wn wx)
          case first =>
           by_cases hne : fps = []
           ·obtain ⟨A6, c6, ev, hc1, hc2, _⟩ := HO6.out.form
            rw [hne] at ev hc1
            have ev2 : vK = .slice A6 0 c6 := ev
            subst ev2
            clear ev
            go_wp2_with fail
            refine (sortStable_nil _ A6 c6).mono ?_
            rintro e w40 ⟨rfl, rfl⟩
            go_wp2_with fail
            go_meet
            exact ⟨fun _ => False, [], by rw [hne], Vl.of_slice rfl (Nat.zero_le _) hc2 (fun h => absurd rfl h), fun b h => h.elim, Kept.refl _ _⟩
           ·obtain ⟨g6, c6, ps, ev, hc1, hc2, hgb, hgs, hgz, hrow, hrel⟩ := HO6.out.rowF hne
            have hlen := hrel.length
            rw [← hlen] at ev
            subst ev
            have HC := Lib.hid (sortStable_any wn ps g6 c6 (by rw [hlen, HFl.out]; have := HPll.out; omega) hrow (fun p hp q hq W hW => by
             obtain ⟨f, hf, h1⟩ := hrel.mem hp
             obtain ⟨f', hf', h2⟩ := hrel.mem hq
             have k1 := HFk.out f hf
             have k2 := HFk.out f' hf'
             exact build1_any p q f.kids f'.kids Z6 W ⟨h1.2.2.1, by omega, h1.2.2.2.2.2.kept hW (fun b hb e => hgz (by have e2 : b = g6 := e; rw [← e2]; exact hb))⟩ ⟨h2.2.2.1, by omega, h2.2.2.2.2.2.kept hW (fun b hb e => hgz (by have e2 : b = g6 := e; rw [← e2]; exact hb))⟩ (fun b hb => Nat.lt_of_lt_of_le (HO6.out.tlt b hb) hW.size)))
            have HRel := Lib.hid hrel
            have HLen := Lib.hid hlen
            clear hrow hrel hlen
            go_wp2_with fail
            refine HC.out.mono ?_
            rintro e w40 ⟨rfl, qs, hq1, hq2, hq3⟩
            have HQ := Lib.hid (And.intro hq1 (And.intro hq2 hq3))
            clear hq1 hq2 hq3
            go_wp2_with fail
            go_meet
            obtain ⟨hq1, hq2, hq3⟩ := HQ.out
            have hr1 := HRel.out.imp (R' := PkR w40 Z6) (fun p f _ _ h => h.kept hq3 (fun b hb e => hgz (by have e2 : b = g6 := e; rw [← e2]; exact hb)))
            obtain ⟨fs, hfs, hr2⟩ := hr1.perm hq2
            refine ⟨fun b => Z6 b ∨ b = g6, fs, hfs, Vl.of_slice (by rw [hfs.length_eq, HLen.out]) (by rw [hfs.length_eq]; exact hc1) hc2 (hq1.els hr2 (.inr rfl) (fun b hb => .inl hb)), fun b hb => ?_, hq3.mono (fun b _ e => by rw [show b = g6 from e]; rfl)⟩
            rcases hb with hb | hb
            ·exact ⟨HZ6.out b hb, Nat.lt_of_lt_of_le (HO6.out.tlt b hb) hq3.size⟩
            ·subst hb; exact ⟨hgb, Nat.lt_of_lt_of_le hgs hq3.size⟩
          case rest =>
          obtain ⟨w40, hw40⟩ : ∃ w40 : World, w40 = wc := ⟨_, rfl⟩
          subst hw40
          obtain ⟨Z', fs, hfs, hvK, hZ', hK40⟩ := hcut
          have HVb : Hid (∀ b, vK.ownBlock = some b → w32.heap.size ≤ b ∧ b < wn.heap.size) := Lib.hid (fun b hb => HO6.out.block b hb)
          have HKF : Hid (Kept (fun b => b = FO) w30 w40) := Lib.hid (((HKm.out.below HB32.out).later HKn.out (fun b hb => by have e : b = B27 := hb; have := HZ32.out; exact .inr (by omega))).later hK40 (fun b hb => by have := HVb.out b hb; have := HZ32.out; exact .inr (by omega)))
          have H27c := Lib.hid (H27n.out.kept hK40 (fun h => by have := HVb.out _ h; have := HZ32.out; omega))
          have HFoc := Lib.hid (((HFo.out.below HB32.out HFo.out.lt).kept HKn.out (by have := HZ32.out; have := HFo.out.lt; omega)).kept hK40 (fun h => by have := HVb.out _ h; have := HZ32.out; have := HFo.out.lt; omega))
          have hOc := ((HO.out.below HB32.out (Nat.le_refl _)).kept HKn.out (fun b hb => by
           have e : b = B27 := hb
           have := HZ32.out
           exact ⟨fun h => by have := (HO.out.block b h).2; omega, fun h => by have := HO.out.tlt b h; omega⟩)).kept hK40 (fun b hb => by
           have := HVb.out b hb
           have := HZ32.out
           exact ⟨fun h => by have := (HO.out.block b h).2; omega, fun h => by have := HO.out.tlt b h; omega⟩)
          have HOc := Lib.hid (hOc.mono (T' := fun b => Z b ∨ Z' b) (fun b hb => .inl hb) (fun b hb h => by
           have h1 := (HO.out.block b hb).2
           have := HZ32.out
           rcases h with h | h
           ·obtain ⟨_, _, _, _, h4, _⟩ := HO.out; exact h4 b hb h
           ·have := hZ' b h; omega) (fun b hb => by rcases hb with h | h; exact hOc.tlt b h; exact (hZ' b h).2))
          have hal : Below w40.heap.size w40 (w40.alloc (.cells #[.bool x.sym.term, .int .i64 x.sym.n, .int .i64 (x.fr : Int), .int .i64 (x.to : Int), vK] 153)) := (Below.refl _ _).alloc (Nat.le_refl _) _
          have HOa := Lib.hid (HOc.out.below hal (Nat.le_refl _))
          have HRd : Hid (Dat.rd (w40.alloc (.cells #[.bool x.sym.term, .int .i64 x.sym.n, .int .i64 (x.fr : Int), .int .i64 (x.to : Int), vK] 153)) (fun b => Z b ∨ Z' b) (⟨x.sym, x.fr, x.to, fs⟩ : FNode) [.bool x.sym.term, .int .i64 x.sym.n, .int .i64 (x.fr : Int), .int .i64 (x.to : Int), vK]) := Lib.hid (by
           have hok := HOk.out x HXm.out
           exact ⟨vK, rfl, hok.1, (show I64 (x.fr : Int) from ⟨by omega, by have := hok.2.1; omega⟩), (show I64 (x.to : Int) from ⟨by omega, by have := hok.2.2; omega⟩), (hvK.below hal).mono (fun b hb => .inr hb)⟩)
          have HNi : Hid (NodeIs ⟨(tm : Int), (n : Int), (y : Int), rs⟩ ws T ys ⟨x.sym, x.fr, x.to, fs⟩ x) := Lib.hid (NodeIs.of HRl.out HR4.out HKx.out _ _ ⟨fps, hfs.symm, HP.out ▸ HFp2.out⟩)
          have hFl : F.length = j := by have h := HF.out.length; rw [List.length_take] at h; omega
          have hcap1 : (F.length + 1) * 56 ≤ 140737488355328 := by omega
          have hcap2 : F.length + 1 ≤ 9223372036854775807 := by omega
          have HBas : Hid (w30.heap.size ≤ (w40.alloc (.cells #[.bool x.sym.term, .int .i64 x.sym.n, .int .i64 (x.fr : Int), .int .i64 (x.to : Int), vK] 153)).heap.size) := Lib.hid (by have := HKF.out.size; simp; omega)
          have HHa := Lib.hid hal
          have HZ'2 := Lib.hid hZ'
          have m5 : w40.cell? ⟨FO, 0, none⟩ = some vF := HFoc.out.cell 0
          have n0 : w40.cell? ⟨B27, 0, none⟩ = some (.bool x.sym.term) := H27c.out.cell 0
          have n1 : w40.cell? ⟨B27, 1, none⟩ = some (.int .i64 x.sym.n) := H27c.out.cell 1
          have n2 : w40.cell? ⟨B27, 2, none⟩ = some (.int .i64 (x.fr : Int)) := H27c.out.cell 2
          have n3 : w40.cell? ⟨B27, 3, none⟩ = some (.int .i64 (x.to : Int)) := H27c.out.cell 3
          have n4 : w40.cell? ⟨B27, 4, none⟩ = some vK := H27c.out.cell 4
          have zFo : FO < w40.heap.size := HFoc.out.lt
          have z27 : B27 < w40.heap.size := H27c.out.lt
          clear hfs hvK hZ' hK40 hOc hal hFl m4 zA
          go_wp2_with ((at_builtin); (refine wpList_ox1 _ rfl _ _ elemFNode rfl rfl HOa.out (⟨x.sym, x.fr, x.to, fs⟩ : FNode) [.bool x.sym.term, .int .i64 x.sym.n, .int .i64 (x.fr : Int), .int .i64 (x.to : Int), vK] rfl (At.new _ _ _) HRd.out hcap1 hcap2 HBas.out ?_); (intro v' w41 hown9 hg9 hat9); (obtain ⟨A9, c9, hv9, _, _, _⟩ := hown9.form); (rw [snoc_len] at hv9); (subst hv9); (have hX9 := (HFoc.out.alloc (.cells #[.bool x.sym.term, .int .i64 x.sym.n, .int .i64 (x.fr : Int), .int .i64 (x.to : Int), vK] 153)).grown hg9 (fun e => by have h9 := (HO.out.block _ e.symm).1; have := HZ30.out; omega)); (have fz4 := hX9.frozen 0); (have mo4 : w41.cell? ⟨FO, 0, none⟩ = some vF := hX9.cell 0); (have zX9 := hX9.lt); (have H9 := Lib.hid (And.intro hown9 (And.intro hg9 (And.intro hX9 hat9)))); (clear hown9 hg9 hX9 hat9))
          go_roundw
          case rel =>
           obtain ⟨hown9, hg9, hX9, hat9⟩ := H9.out
           have hK9 : Kept (fun b => b = FO) w30 (w41.setCell ⟨FO, 0, none⟩ (.slice A9 (F.length + 1) c9)) := by
            refine Kept.setCell (X := fun b => b = FO) ?_ (p := ⟨FO, 0, none⟩) (.inl rfl) (.slice A9 (F.length + 1) c9)
            exact (HKF.out.below HHa.out).grown hg9 (fun b hb => .inr (HO.out.block b hb).1)
           refine ⟨j + 1, F ++ [(⟨x.sym, x.fr, x.to, fs⟩ : FNode)], _, _, hlt, by go_num, ?_, hX9.set_ 0 (.slice A9 (F.length + 1) c9), hown9.setCell (p := ⟨FO, 0, none⟩) (fun e => ?_) (fun h => ?_) (.slice A9 (F.length + 1) c9), fun b hb => ?_, hK9⟩
           ·rw [take_snoc HX.out]
            exact HF.out.snoc HNi.out
           ·have h1 := (hown9.block _ e).1
            have := HZ30.out
            dsimp only at h1
            omega
           ·have := HZ30.out
            dsimp only at h
            rcases h with h | h
            ·have := HZ.out _ h; omega
            ·have := (HZ'2.out _ h).1; have := HZ32.out; omega
           ·rcases hb with h | h
            ·exact HZ.out b h
            ·have := (HZ'2.out b h).1; have := HZ32.out; omega
          case measure => simp [intOf]; omega
       ·have hjj : j = ys.length := by omega
        subst hjj
        have hFys : Rel2 (NodeIs ⟨(tm : Int), (n : Int), (y : Int), rs⟩ ws T ys) F ys := by have h := HF.out; rwa [List.take_length] at h
        have HFys := Lib.hid hFys
        obtain ⟨AF, cF, rfl, hcf1, hcf2, _⟩ := HO.out.form
        have HFb := Lib.hid (HF20.out.below HBm.out HF20.out.lt)
        have hfb : w.heap.size + 1 < w20.heap.size := by have := HZ20.out; omega
        have m0 : wm.cell? ⟨FO, 0, none⟩ = some (.slice AF F.length cF) := HFo.out.cell 0
        have m1 : wm.cell? ⟨FO, 1, none⟩ = some (.int .i64 (r : Int)) := HFo.out.cell 1
        have zFo : FO < wm.heap.size := HFo.out.lt
        have f0 : wm.cell? ⟨w.heap.size + 1, 0, none⟩ = some (.slice none 0 0) := HFb.out.cell 0
        have f1 : wm.cell? ⟨w.heap.size + 1, 1, none⟩ = some (.int .i64 0) := HFb.out.cell 1
        have zF : w.heap.size + 1 < wm.heap.size := HFb.out.lt
        have fz0 : wm.frozen? ⟨w.heap.size + 1, 0, none⟩ = false := HFb.out.frozen 0
        have fz1 : wm.frozen? ⟨w.heap.size + 1, 1, none⟩ = false := HFb.out.frozen 1
        have hne : ¬ FO = w.heap.size + 1 := by have := HZ30.out; omega
        clear hFys
        go_wp2_with fail
        obtain ⟨wF, hwF⟩ : ∃ wF : World, wF = (wm.setCell ⟨w.heap.size + 1, 0, none⟩ (.slice AF F.length cF)).setCell ⟨w.heap.size + 1, 1, none⟩ (.int .i64 (r : Int)) := ⟨_, rfl⟩
        rw [← hwF]
        have hFF : Blk' wF (w.heap.size + 1) 104 #[.slice AF F.length cF, .int .i64 (r : Int)] := by rw [hwF]; exact set2 HFb.out (.slice AF F.length cF) (.int .i64 (r : Int))
        have hBF : Below w.heap.size w wF := by rw [hwF]; exact ((bthen HB20.out HBm.out HB20.out.size).setCell (by simp) _).setCell (by simp) _
        have hKF : Kept (fun b => b = w.heap.size + 1) wm wF := by rw [hwF]; exact ((Kept.refl (fun b => b = w.heap.size + 1) wm).setCell (p := ⟨w.heap.size + 1, 0, none⟩) (.inl rfl) _).setCell (p := ⟨w.heap.size + 1, 1, none⟩) (.inl rfl) _
        have u0 : wF.cell? ⟨w.heap.size + 1, 0, none⟩ = some (.slice AF F.length cF) := hFF.cell 0
        have u1 : wF.cell? ⟨w.heap.size + 1, 1, none⟩ = some (.int .i64 (r : Int)) := hFF.cell 1
        clear hwF hFF m0 m1 zFo f0 f1 zF fz0 fz1 hne
        have hEF : Els wF (fun b => w.heap.size ≤ b ∧ b < wF.heap.size) F AF := by
         have h1 := (HO.out.own (S := fun _ => False) (fun b hb => .inr (HZ.out b hb))).vl.els.2.2.2
         exact (h1.kept hKF (fun b hb e => by have e2 : b = w.heap.size + 1 := e; have := HZ30.out; rcases hb.1 with h | h; exact h.elim; omega)).keep (fun _ _ _ => rfl) (fun b hb => ⟨by have := HZ30.out; have := HZ20.out; rcases hb.1 with h | h; exact h.elim; omega, Nat.lt_of_lt_of_le hb.2 hKF.size⟩)
        have hFl : F.length = ys.length := HFys.out.length
        exact bodyPost_ret (v := .tuple #[.agg #[.slice AF F.length cF, .int .i64 (r : Int)], .bool true]) (by simp [results, Tryd.results98, go_sem, u0, u1]) rfl ⟨AF, F.length, cF, (r : Int), rfl, hBF, .inr ⟨F, ys, r, rfl, rfl, hEF, forest_of HFys.out (fun k hk => (HGood.out k hk).2), HYr.out, by omega, by omega, fun nd hnd => by
         obtain ⟨k, _, h1, h2, h3, h4⟩ := HFys.out.mem hnd
         exact ⟨h3, fun p hp => ⟨(h4 p hp).1, fun i hi => ⟨((h4 p hp).2 i hi).1, by rw [hFl]; exact ((h4 p hp).2 i hi).2⟩⟩⟩⟩⟩
 ·rw [if_neg hac] at han
  have f0 : w1.cell? ⟨w.heap.size + 1, 0, none⟩ = some (.slice none 0 0) := HF1.out.cell 0
  have f1 : w1.cell? ⟨w.heap.size + 1, 1, none⟩ = some (.int .i64 0) := HF1.out.cell 1
  have zF : w.heap.size + 1 < w1.heap.size := HF1.out.lt
  have fz0 : w1.frozen? ⟨w.heap.size + 1, 0, none⟩ = false := HF1.out.frozen 0
  have fz1 : w1.frozen? ⟨w.heap.size + 1, 1, none⟩ = false := HF1.out.frozen 1
  go_wp2_with fail
  obtain ⟨wF, hwF⟩ : ∃ wF : World, wF = (((w1.setCell ⟨w.heap.size + 1, 0, none⟩ (.slice none 0 0)).setCell ⟨w.heap.size + 1, 1, none⟩ (.int .i64 (-1))).alloc (.cells #[.bool false, .int .i64 (y : Int), .int .i64 0, .int .i64 (ws.length : Int)] 194)) := ⟨_, rfl⟩
  rw [← hwF]
  have hFF : Blk' wF (w.heap.size + 1) 104 #[.slice none 0 0, .int .i64 (-1)] := by rw [hwF]; exact (set2 HF1.out (.slice none 0 0) (.int .i64 (-1))).alloc _
  have hBF : Below w.heap.size w wF := by rw [hwF]; exact ((HB1.out.setCell (by simp) _).setCell (by simp) _).alloc (by simp [World.setCell]; have := HB1.out.size; omega) _
  have u0 : wF.cell? ⟨w.heap.size + 1, 0, none⟩ = some (.slice none 0 0) := hFF.cell 0
  have u1 : wF.cell? ⟨w.heap.size + 1, 1, none⟩ = some (.int .i64 (-1)) := hFF.cell 1
  clear hwF hFF f0 f1 zF fz0 fz1
  exact bodyPost_ret (v := .tuple #[.agg #[.slice none 0 0, .int .i64 (-1)], .bool true]) (by simp [results, Tryd.results98, go_sem, u0, u1]) rfl ⟨none, 0, 0, -1, rfl, hBF, .inl ⟨rfl, fun h => hac (HAcc.out.2 h)⟩⟩
end Go.Proofs.YtjdojogjogenkaaDoor
