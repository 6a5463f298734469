/- Contract: the reference's LayeredOf. -/
import Derived.Test.YtlbhaegdcpacpaaPrecAdd3
import Derived.Test.YtlbhaegdcpacpaaPrecLay
namespace Go.Proofs.Ytlbhaegdcpacpaa
open Go.RowKit
set_option linter.unusedVariables false

def InR (b : Bool) (w : World) (t : Table) (A : Option Addr) (c : Nat) (k : Nat) (kd : Int) (os : List Int) (L0 : Nat) (Ao : Option Addr) (co : Nat) (r1 : Int) (R1 : List Rule) (L1 : List Int) (r8 i : Value) (wr : World) : Prop :=
  ∃ (m : Nat) (r : Int) (rs : List Rule) (lv : List Int), m ≤ os.length ∧ i = .int .i64 m ∧ r8 = .int .i64 r ∧ 1 ≤ r ∧ r ≤ lv.length + 2 ∧ r + ((os.length - m : Nat) : Int) = r1 ∧ FL (fun b => b = L0) w t A c rs lv wr ∧
    Blk' wr L0 81 #[.int .i64 kd, .slice Ao os.length co] ∧
    layRules b t = rs ++ ((os.drop m).map (layRule kd k) ++ R1) ∧ layTo b t = lv ++ (nums r (os.drop m) ++ L1)

theorem FL.guardOr {X : Nat → Prop} {w wr w' : World} {t : Table} {A : Option Addr} {c : Nat} {rs : List Rule} {ls : List Int} (h : FL X w t A c rs ls wr) (hb : Below wr.heap.size wr w') (hs : w'.heap.size = wr.heap.size + 2) : FL (fun b => wr.heap.size ≤ b ∧ b < wr.heap.size + 2 ∨ X b) w t A c rs ls w' := by
  have h' := h.below hb
  obtain ⟨q1, q2, q3, v1, v2, g1, g2, g3, g4⟩ := h'
  obtain ⟨p1, p2, p3, u1, u2, f1, f2, f3, f4⟩ := h.guardN hb
  have e1 : u1 = v1 := by
    unfold Blk' at f1 g1
    rw [f1] at g1
    simpa using g1
  have e2 : u2 = v2 := by
    unfold Blk' at f2 g2
    rw [f2] at g2
    simpa using g2
  subst e1; subst e2
  refine ⟨q1, q2, q3, u1, u2, g1, g2, g3, fun b hb => ?_⟩
  rcases hb with hb | hb
  · exact f4 b ⟨hb.1, by omega⟩
  · exact g4 b hb
set_option maxRecDepth 100000 in
set_option maxHeartbeats 4000000 in
theorem refLay_any (t : Table) (A : Option Addr) (c : Nat) (S : Nat → Prop) (w : World) (h64 : I64 t.terms ∧ I64 t.atom ∧ I64 t.opn ∧ I64 t.cls) (hlc : t.levels.length ≤ c) (hc : c ≤ 9223372036854775807) (hln : t.levels.length ≤ 1000000) (hA : Els w S t.levels A) (hS : ∀ b, S b → b < w.heap.size)
    (hK : ∀ l ∈ t.levels, 0 ≤ l.kind ∧ l.kind ≤ 3) (hN : (layRules (decide (t.opn ≠ -1)) t).length ≤ 1000000 ∧ (layTo (decide (t.opn ≠ -1)) t).length ≤ 1000000) :
    Calls Try.prog 15 #[.agg #[.int .i64 t.terms, .int .i64 t.atom, .int .i64 t.opn, .int .i64 t.cls, .slice A t.levels.length c]] w
      fun e w' => ∃ v1 v2, e = .returned (.tuple #[.agg #[.int .i64 t.terms, .int .i64 ((t.levels.length : Int) + 1), .int .i64 0, v1], v2]) ∧ Two w' (fun _ => False) w.heap.size 59 3 v1 v2 (layRules (decide (t.opn ≠ -1)) t) (layTo (decide (t.opn ≠ -1)) t) ∧ Below w.heap.size w w' := by
  obtain ⟨tm, at_, op, cl, ls⟩ := t
  dsimp only at *
  have H64 := Lib.hid h64
  have HK := Lib.hid hK
  have hn0 : (0 : Int) ≤ (ls.length : Int) := by omega
  have hnm : (ls.length : Int) ≤ 9223372036854775806 := by omega
  clear hln
  have HIn : Hid (I64 (ls.length : Int)) := Lib.hid ⟨by omega, by omega⟩
  obtain ⟨bb, hbb⟩ : ∃ bb : Bool, bb = decide (op ≠ -1) := ⟨_, rfl⟩
  rw [← hbb] at hN ⊢
  have HN := Lib.hid hN
  clear h64 hK hN
  obtain ⟨w2, hw2⟩ : ∃ w2 : World, w2 = (((w.alloc (.cells #[.int .i64 tm, .int .i64 at_, .int .i64 op, .int .i64 cl, .slice A ls.length c] 24)).alloc (.cells #[.int .i64 0, .int .i64 0, .int .i64 0, .slice none 0 0] 38)).alloc (.cells #[.int .i64 tm, .int .i64 ((ls.length : Int) + 1), .int .i64 0, .slice none 0 0] 38)).alloc (.cells #[.slice none 0 0] 39) := ⟨_, rfl⟩
  have H4 : Hid (FL (fun _ => False) w ⟨tm, at_, op, cl, ls⟩ A c [] [] w2) := Lib.hid (by
    rw [hw2]
    exact ⟨((((Below.refl _ _).alloc (Nat.le_refl _) _).alloc (by simp) _).alloc (by simp <;> omega) _).alloc (by simp <;> omega) _, (((Blk'.new w _ _).alloc _).alloc _).alloc _, ((Blk'.new' _ _ _ (by simp)).alloc _).alloc _, _, _, (Blk'.new' _ _ _ (by simp)).alloc _, Blk'.new' _ _ _ (by simp), Two.nil _ _ _ _ _, fun b hb => hb.elim⟩)
  have HW2 := Lib.hid hw2
  clear hw2
  by_cases hop : op = -1
  all_goals
    have HBv : Hid (bb = decide (op ≠ -1)) := Lib.hid hbb
    have hq : (op != -1) = !(decide (op = -1)) := rfl
    first | (have hop' : (op != -1) = false := by simpa using hop) | (have hop' : (op != -1) = true := by simpa using hop)
    first | (have hb' : bb = false := by rw [hbb]; simpa using hop) | (have hb' : bb = true := by rw [hbb]; simpa using hop)
    have HB := Lib.hid hb'
    have HOP := Lib.hid hop
    clear hbb hq hb' hop
    go_enter Try.func15, Try.ntmps15
    go_wp2_with fail
    rw [show (1 + (ls.length : Int)) = (ls.length : Int) + 1 from by omega, ← HW2.out]
    go_loopw [8, 29] (fun r8 i wr => OutL bb w ⟨tm, at_, op, cl, ls⟩ A c r8 i wr) (fun _ i _ => ls.length - (intOf i).toNat)
    case atStart => first | exact ⟨0, 1, [], [], Nat.zero_le _, rfl, rfl, by omega, by simp, H4.out, by simp [layRules], by rw [HB.out]; rfl⟩ | exact ⟨0, 2, [], [], Nat.zero_le _, rfl, rfl, by omega, by simp, H4.out, by simp [layRules], by rw [HB.out]; rfl⟩
    case round =>
      obtain ⟨wo, hwo⟩ : ∃ wo : World, wo = wr := ⟨_, rfl⟩
      subst hwo
      obtain ⟨k, r, rs, lv, hk, rfl, rfl, hr1, hr2, hF, hr, hl⟩ := hrel
      dsimp only at hk hr hl
      have H7 := Lib.hid hF
      have HR := Lib.hid hr
      have HL := Lib.hid hl
      have HLn : Hid (rs.length ≤ 1000000 ∧ lv.length ≤ 1000000) := Lib.hid (by have h := HN.out; rw [hr, hl] at h; simp only [List.length_append] at h; omega)
      have hrb : r ≤ 1000002 := by have := HLn.out.2; omega
      clear hF hr hl H4 HW2
      by_cases hlt : k < ls.length
      · obtain ⟨x, hx⟩ := get_some hlt
        obtain ⟨b, o, Ao, co, rfl, hSb, hbs, hi, hoc, hco, hEo, hc0, hc1⟩ := hA.level hx
        have Hd := Lib.hid (drop_cons hx)
        have hk0 : (0 : Int) ≤ (k : Int) := by omega
        have hkm : (k : Int) ≤ 9223372036854775805 := by omega
        have hkind := HK.out x (List.mem_of_getElem? hx)
        obtain ⟨kd, os⟩ := x
        dsimp only at *
        have d0 : wo.cell? ⟨b, o + k * 2, none⟩ = some (.int .i64 kd) := (H7.out.1.cell (p := ⟨b, o + k * 2, none⟩) hbs).trans hc0
        have d1 : wo.cell? ⟨b, o + k * 2 + 1, none⟩ = some (.slice Ao os.length co) := (H7.out.1.cell (p := ⟨b, o + k * 2 + 1, none⟩) hbs).trans hc1
        have hol : os.length ≤ 9223372036854775807 := by omega
        have HEo := Lib.hid hEo
        have HIk : Hid (I64 (k : Int)) := Lib.hid ⟨by omega, by omega⟩
        have HIk2 : Hid (I64 ((k : Int) + 1)) := Lib.hid ⟨by omega, by omega⟩
        have ER2 := Lib.hid (show layRules bb ⟨tm, at_, op, cl, ls⟩ = rs ++ ((os.drop 0).map (layRule kd k) ++ (⟨(k : Int), [⟨false, (k : Int) + 1⟩]⟩ :: (layFrom (k + 1) (ls.drop (k + 1)) ++ layTailR bb ⟨tm, at_, op, cl, ls⟩))) by rw [HR.out, Hd.out]; simp [layFrom])
        have EL2 := Lib.hid (show layTo bb ⟨tm, at_, op, cl, ls⟩ = lv ++ (nums r (os.drop 0) ++ (-1 :: (toFrom (r + (os.length : Int)) (ls.drop (k + 1)) ++ layTailL bb))) by rw [HL.out, Hd.out]; simp [toFrom])
        have hI := Lib.hid ((H7.out.guardN ((Below.refl wo.heap.size wo).alloc (Nat.le_refl _) (.cells #[.int .i64 kd, .slice Ao os.length co] 81))).sub (X' := fun b => b = wo.heap.size) (fun b hb => by subst hb; simp))
        clear hx hEo hc0 hc1 HR HL Hd
        go_wp2_with fail
        go_loopw [8, 37] (fun r8 i wr => InR bb w ⟨tm, at_, op, cl, ls⟩ (some ⟨b, o, none⟩) c k kd os wo.heap.size Ao co (r + (os.length : Int)) (⟨(k : Int), [⟨false, (k : Int) + 1⟩]⟩ :: (layFrom (k + 1) (ls.drop (k + 1)) ++ layTailR bb ⟨tm, at_, op, cl, ls⟩)) (-1 :: (toFrom (r + (os.length : Int)) (ls.drop (k + 1)) ++ layTailL bb)) r8 i wr) (fun _ i _ => os.length - (intOf i).toNat)
        case atStart => exact ⟨0, r, rs, lv, Nat.zero_le _, rfl, rfl, hr1, hr2, by simp, hI.out, Blk'.new _ _ _, ER2.out, EL2.out⟩
        case round =>
          obtain ⟨wi, hwi⟩ : ∃ wi : World, wi = wr := ⟨_, rfl⟩
          subst hwi
          obtain ⟨m, r2, rs1, lv1, hm, rfl, rfl, hr3, hr4, hr5, hF, hL, hr, hl⟩ := hrel
          have H8 := Lib.hid hF
          have HL8 := Lib.hid hL
          have HR := Lib.hid hr
          have HL := Lib.hid hl
          have HR5 := Lib.hid hr5
          have HLn2 : Hid (rs1.length ≤ 1000000 ∧ lv1.length ≤ 1000000) := Lib.hid (by have h := HN.out; rw [hr, hl] at h; simp only [List.length_append] at h; omega)
          have hrb2 : r2 ≤ 1000002 := by have := HLn2.out.2; omega
          have l0 : wi.cell? ⟨wo.heap.size, 0, none⟩ = some (.int .i64 kd) := hL.cell 0
          have zL : wo.heap.size < wi.heap.size := hL.lt
          clear hF hL hr hl hI ER2 EL2 hr5 HLn
          by_cases hlm : m < os.length
          · obtain ⟨x, hx⟩ := get_some hlm
            obtain ⟨b2, o2, hAo, hSb2, hbs2, hix, hcx⟩ := (HEo.out.belowB H8.out.1 hS).int hx
            subst hAo
            have Hd := Lib.hid (drop_cons hx)
            have hm0 : (0 : Int) ≤ (m : Int) := by omega
            have HIx := Lib.hid hix
            have HIr : Hid (I64 r2) := Lib.hid ⟨by omega, by omega⟩
            have ER3 := Lib.hid (show layRules bb ⟨tm, at_, op, cl, ls⟩ = (rs1 ++ [layRule kd k x]) ++ ((os.drop (m + 1)).map (layRule kd k) ++ (⟨(k : Int), [⟨false, (k : Int) + 1⟩]⟩ :: (layFrom (k + 1) (ls.drop (k + 1)) ++ layTailR bb ⟨tm, at_, op, cl, ls⟩))) by rw [HR.out, Hd.out]; simp)
            have EL3 := Lib.hid (show layTo bb ⟨tm, at_, op, cl, ls⟩ = (lv1 ++ [r2]) ++ (nums (r2 + 1) (os.drop (m + 1)) ++ (-1 :: (toFrom (r + (os.length : Int)) (ls.drop (k + 1)) ++ layTailL bb))) by rw [HL.out, Hd.out]; simp [nums])
            have HR6 : Hid ((r2 + 1) + ((os.length - (m + 1) : Nat) : Int) = r + (os.length : Int)) := Lib.hid (by have := HR5.out; omega)
            clear hx hix HR HL Hd HR5
            by_cases q0 : kd = 0
            · subst q0
              have ERq := Lib.hid (show layRule 0 k x = ⟨(k : Int), [⟨false, (k : Int) + 1⟩, ⟨true, x⟩, ⟨false, (k : Int) + 1⟩]⟩ by simp [layRule])
              go_wp2_with fail
              obtain ⟨w8, hw8⟩ : ∃ w8 : World, w8 = (wi.alloc (.cells #[.bool false, .int .i64 ((k : Int) + 1)] 88)).alloc (.cells #[.bool false, .int .i64 ((k : Int) + 1)] 88) := ⟨_, rfl⟩
              rw [← hw8]
              have hb8 : Below wi.heap.size wi w8 := by rw [hw8]; exact ((Below.refl _ _).alloc (Nat.le_refl _) _).alloc (by simp) _
              have hp1 : Blk' w8 wi.heap.size 88 #[.bool false, .int .i64 ((k : Int) + 1)] := by rw [hw8]; exact (Blk'.new _ _ _).alloc _
              have hp2 : Blk' w8 (wi.heap.size + 1) 88 #[.bool false, .int .i64 ((k : Int) + 1)] := by rw [hw8]; exact Blk'.new' _ _ _ (by simp)
              have HM := Lib.hid (And.intro (H8.out.below hb8) (HL8.out.below hb8 zL))
              have HM2 := Lib.hid (show FL (fun b => wi.heap.size ≤ b ∧ b < wi.heap.size + 2 ∨ b = wo.heap.size) w ⟨tm, at_, op, cl, ls⟩ (some ⟨b, o, none⟩) c rs1 lv1 w8 from H8.out.guardOr hb8 (by rw [hw8]; simp))
              have FLX := Lib.hid HM2.out.2.2.2
              have HP8 := Lib.hid (And.intro hp1 hp2)
              have o80 : w8.cell? ⟨wi.heap.size, 0, none⟩ = some (.bool false) := hp1.cell 0
              have o81 : w8.cell? ⟨wi.heap.size, 1, none⟩ = some (.int .i64 ((k : Int) + 1)) := hp1.cell 1
              have p80 : w8.cell? ⟨wi.heap.size + 1, 0, none⟩ = some (.bool false) := hp2.cell 0
              have p81 : w8.cell? ⟨wi.heap.size + 1, 1, none⟩ = some (.int .i64 ((k : Int) + 1)) := hp2.cell 1
              have zP : wi.heap.size + 1 < w8.heap.size := hp2.lt
              have zP0 : wi.heap.size < w8.heap.size := hp1.lt
              clear hw8 hp1 hp2 l0 hb8
              go_region_held3 (fun w' => w'.cell? ⟨wi.heap.size, 0, none⟩ = some (.bool false) ∧ w'.cell? ⟨wi.heap.size, 1, none⟩ = some (.int .i64 ((k : Int) + 1)) ∧ w'.cell? ⟨wi.heap.size + 1, 0, none⟩ = some (.bool false) ∧ w'.cell? ⟨wi.heap.size + 1, 1, none⟩ = some (.int .i64 ((k : Int) + 1))) (go_keep)
                (first
                | (go_at_call 54; refine (refLayT_any _ _).mono ?_; rintro e wt ⟨rfl, hbt⟩; have ht1 := HP8.out.1.below (bundrew hbt) zP0; have ht2 := HP8.out.2.below (bundrew hbt) zP; have ot0 : wt.cell? ⟨wi.heap.size, 0, none⟩ = some (.bool false) := ht1.cell 0; have ot1 : wt.cell? ⟨wi.heap.size, 1, none⟩ = some (.int .i64 ((k : Int) + 1)) := ht1.cell 1; have pt0 : wt.cell? ⟨wi.heap.size + 1, 0, none⟩ = some (.bool false) := ht2.cell 0; have pt1 : wt.cell? ⟨wi.heap.size + 1, 1, none⟩ = some (.int .i64 ((k : Int) + 1)) := ht2.cell 1; have HBt := Lib.hid (bundrew hbt); have zt := hbt.size; clear hbt ht1 ht2)
                | (go_at_call 53; refine (refAdd_any _ _ HIk.out [⟨false, (k : Int) + 1⟩, ⟨true, x⟩, ⟨false, (k : Int) + 1⟩] _ _ (w.heap.size + 2) (w.heap.size + 4) (w.heap.size + 2) (w.heap.size + 3) (fun b => wi.heap.size ≤ b ∧ b < wi.heap.size + 2 ∨ b = wo.heap.size) (fun _ => False) tm ((ls.length : Int) + 1) 0 _ _ w8 _ HM.out.1.add (FLX.out) (by exact HBt.out.alloc zt _) (by exact els_of_blk [[.bool false, .int .i64 ((k : Int) + 1)], [.bool true, .int .i64 x], [.bool false, .int .i64 ((k : Int) + 1)]] (Blk'.new wt _ _) rfl rfl (rd_three0 ⟨rfl, HIk2.out⟩ ⟨rfl, HIx.out⟩ ⟨rfl, HIk2.out⟩) ⟨zt, by simp⟩) (by simp) HIr.out HLn2.out).mono ?_; rintro e w9 ⟨rfl, hf9, hb9, hx9⟩; have H9 := Lib.hid (And.intro (HM2.out.added (by exact HBt.out.alloc zt _) hf9 hb9) (And.intro ((hx9 wo.heap.size (.inr rfl)).trans ((HM.out.2.below HBt.out HM.out.2.lt).alloc _)) (And.intro ((hx9 wi.heap.size (.inl ⟨by omega, by omega⟩)).trans ((HP8.out.1.below HBt.out zP0).alloc _)) ((hx9 (wi.heap.size + 1) (.inl ⟨by omega, by omega⟩)).trans ((HP8.out.2.below HBt.out zP).alloc _))))); have o90 : w9.cell? ⟨wi.heap.size, 0, none⟩ = some (.bool false) := (show Blk' _ _ _ _ from H9.out.2.2.1).cell 0; have o91 : w9.cell? ⟨wi.heap.size, 1, none⟩ = some (.int .i64 ((k : Int) + 1)) := (show Blk' _ _ _ _ from H9.out.2.2.1).cell 1; have p90 : w9.cell? ⟨wi.heap.size + 1, 0, none⟩ = some (.bool false) := (show Blk' _ _ _ _ from H9.out.2.2.2).cell 0; have p91 : w9.cell? ⟨wi.heap.size + 1, 1, none⟩ = some (.int .i64 ((k : Int) + 1)) := (show Blk' _ _ _ _ from H9.out.2.2.2).cell 1; clear hf9 hb9 hx9))
              go_wp2
              go_roundw
              case rel => exact ⟨m + 1, r2 + 1, _, _, hlm, by go_num, rfl, by omega, by simp; omega, HR6.out, H9.out.1.sub (fun b hb => .inr hb), H9.out.2.1, by rw [← ERq.out]; exact ER3.out, EL3.out⟩
              case measure => simp [intOf]; omega
            by_cases q1 : kd = 1
            · subst q1
              have ERq := Lib.hid (show layRule 1 k x = ⟨(k : Int), [⟨false, (k : Int)⟩, ⟨true, x⟩, ⟨false, (k : Int) + 1⟩]⟩ by simp [layRule])
              go_wp2_with fail
              obtain ⟨w8, hw8⟩ : ∃ w8 : World, w8 = (wi.alloc (.cells #[.bool false, .int .i64 (k : Int)] 88)).alloc (.cells #[.bool false, .int .i64 ((k : Int) + 1)] 88) := ⟨_, rfl⟩
              rw [← hw8]
              have hb8 : Below wi.heap.size wi w8 := by rw [hw8]; exact ((Below.refl _ _).alloc (Nat.le_refl _) _).alloc (by simp) _
              have hp1 : Blk' w8 wi.heap.size 88 #[.bool false, .int .i64 (k : Int)] := by rw [hw8]; exact (Blk'.new _ _ _).alloc _
              have hp2 : Blk' w8 (wi.heap.size + 1) 88 #[.bool false, .int .i64 ((k : Int) + 1)] := by rw [hw8]; exact Blk'.new' _ _ _ (by simp)
              have HM := Lib.hid (And.intro (H8.out.below hb8) (HL8.out.below hb8 zL))
              have HM2 := Lib.hid (show FL (fun b => wi.heap.size ≤ b ∧ b < wi.heap.size + 2 ∨ b = wo.heap.size) w ⟨tm, at_, op, cl, ls⟩ (some ⟨b, o, none⟩) c rs1 lv1 w8 from H8.out.guardOr hb8 (by rw [hw8]; simp))
              have FLX := Lib.hid HM2.out.2.2.2
              have HP8 := Lib.hid (And.intro hp1 hp2)
              have o80 : w8.cell? ⟨wi.heap.size, 0, none⟩ = some (.bool false) := hp1.cell 0
              have o81 : w8.cell? ⟨wi.heap.size, 1, none⟩ = some (.int .i64 (k : Int)) := hp1.cell 1
              have p80 : w8.cell? ⟨wi.heap.size + 1, 0, none⟩ = some (.bool false) := hp2.cell 0
              have p81 : w8.cell? ⟨wi.heap.size + 1, 1, none⟩ = some (.int .i64 ((k : Int) + 1)) := hp2.cell 1
              have zP : wi.heap.size + 1 < w8.heap.size := hp2.lt
              have zP0 : wi.heap.size < w8.heap.size := hp1.lt
              clear hw8 hp1 hp2 l0 hb8
              go_region_held3 (fun w' => w'.cell? ⟨wi.heap.size, 0, none⟩ = some (.bool false) ∧ w'.cell? ⟨wi.heap.size, 1, none⟩ = some (.int .i64 (k : Int)) ∧ w'.cell? ⟨wi.heap.size + 1, 0, none⟩ = some (.bool false) ∧ w'.cell? ⟨wi.heap.size + 1, 1, none⟩ = some (.int .i64 ((k : Int) + 1))) (go_keep)
                (first
                | (go_at_call 54; refine (refLayT_any _ _).mono ?_; rintro e wt ⟨rfl, hbt⟩; have ht1 := HP8.out.1.below (bundrew hbt) zP0; have ht2 := HP8.out.2.below (bundrew hbt) zP; have ot0 : wt.cell? ⟨wi.heap.size, 0, none⟩ = some (.bool false) := ht1.cell 0; have ot1 : wt.cell? ⟨wi.heap.size, 1, none⟩ = some (.int .i64 (k : Int)) := ht1.cell 1; have pt0 : wt.cell? ⟨wi.heap.size + 1, 0, none⟩ = some (.bool false) := ht2.cell 0; have pt1 : wt.cell? ⟨wi.heap.size + 1, 1, none⟩ = some (.int .i64 ((k : Int) + 1)) := ht2.cell 1; have HBt := Lib.hid (bundrew hbt); have zt := hbt.size; clear hbt ht1 ht2)
                | (go_at_call 53; refine (refAdd_any _ _ HIk.out [⟨false, (k : Int)⟩, ⟨true, x⟩, ⟨false, (k : Int) + 1⟩] _ _ (w.heap.size + 2) (w.heap.size + 4) (w.heap.size + 2) (w.heap.size + 3) (fun b => wi.heap.size ≤ b ∧ b < wi.heap.size + 2 ∨ b = wo.heap.size) (fun _ => False) tm ((ls.length : Int) + 1) 0 _ _ w8 _ HM.out.1.add (FLX.out) (by exact HBt.out.alloc zt _) (by exact els_of_blk [[.bool false, .int .i64 (k : Int)], [.bool true, .int .i64 x], [.bool false, .int .i64 ((k : Int) + 1)]] (Blk'.new wt _ _) rfl rfl (rd_three0 ⟨rfl, HIk.out⟩ ⟨rfl, HIx.out⟩ ⟨rfl, HIk2.out⟩) ⟨zt, by simp⟩) (by simp) HIr.out HLn2.out).mono ?_; rintro e w9 ⟨rfl, hf9, hb9, hx9⟩; have H9 := Lib.hid (And.intro (HM2.out.added (by exact HBt.out.alloc zt _) hf9 hb9) (And.intro ((hx9 wo.heap.size (.inr rfl)).trans ((HM.out.2.below HBt.out HM.out.2.lt).alloc _)) (And.intro ((hx9 wi.heap.size (.inl ⟨by omega, by omega⟩)).trans ((HP8.out.1.below HBt.out zP0).alloc _)) ((hx9 (wi.heap.size + 1) (.inl ⟨by omega, by omega⟩)).trans ((HP8.out.2.below HBt.out zP).alloc _))))); have o90 : w9.cell? ⟨wi.heap.size, 0, none⟩ = some (.bool false) := (show Blk' _ _ _ _ from H9.out.2.2.1).cell 0; have o91 : w9.cell? ⟨wi.heap.size, 1, none⟩ = some (.int .i64 (k : Int)) := (show Blk' _ _ _ _ from H9.out.2.2.1).cell 1; have p90 : w9.cell? ⟨wi.heap.size + 1, 0, none⟩ = some (.bool false) := (show Blk' _ _ _ _ from H9.out.2.2.2).cell 0; have p91 : w9.cell? ⟨wi.heap.size + 1, 1, none⟩ = some (.int .i64 ((k : Int) + 1)) := (show Blk' _ _ _ _ from H9.out.2.2.2).cell 1; clear hf9 hb9 hx9))
              go_wp2
              go_roundw
              case rel => exact ⟨m + 1, r2 + 1, _, _, hlm, by go_num, rfl, by omega, by simp; omega, HR6.out, H9.out.1.sub (fun b hb => .inr hb), H9.out.2.1, by rw [← ERq.out]; exact ER3.out, EL3.out⟩
              case measure => simp [intOf]; omega
            by_cases q2 : kd = 2
            · subst q2
              have ERq := Lib.hid (show layRule 2 k x = ⟨(k : Int), [⟨false, (k : Int) + 1⟩, ⟨true, x⟩, ⟨false, (k : Int)⟩]⟩ by simp [layRule])
              go_wp2_with fail
              obtain ⟨w8, hw8⟩ : ∃ w8 : World, w8 = (wi.alloc (.cells #[.bool false, .int .i64 ((k : Int) + 1)] 88)).alloc (.cells #[.bool false, .int .i64 (k : Int)] 88) := ⟨_, rfl⟩
              rw [← hw8]
              have hb8 : Below wi.heap.size wi w8 := by rw [hw8]; exact ((Below.refl _ _).alloc (Nat.le_refl _) _).alloc (by simp) _
              have hp1 : Blk' w8 wi.heap.size 88 #[.bool false, .int .i64 ((k : Int) + 1)] := by rw [hw8]; exact (Blk'.new _ _ _).alloc _
              have hp2 : Blk' w8 (wi.heap.size + 1) 88 #[.bool false, .int .i64 (k : Int)] := by rw [hw8]; exact Blk'.new' _ _ _ (by simp)
              have HM := Lib.hid (And.intro (H8.out.below hb8) (HL8.out.below hb8 zL))
              have HM2 := Lib.hid (show FL (fun b => wi.heap.size ≤ b ∧ b < wi.heap.size + 2 ∨ b = wo.heap.size) w ⟨tm, at_, op, cl, ls⟩ (some ⟨b, o, none⟩) c rs1 lv1 w8 from H8.out.guardOr hb8 (by rw [hw8]; simp))
              have FLX := Lib.hid HM2.out.2.2.2
              have HP8 := Lib.hid (And.intro hp1 hp2)
              have o80 : w8.cell? ⟨wi.heap.size, 0, none⟩ = some (.bool false) := hp1.cell 0
              have o81 : w8.cell? ⟨wi.heap.size, 1, none⟩ = some (.int .i64 ((k : Int) + 1)) := hp1.cell 1
              have p80 : w8.cell? ⟨wi.heap.size + 1, 0, none⟩ = some (.bool false) := hp2.cell 0
              have p81 : w8.cell? ⟨wi.heap.size + 1, 1, none⟩ = some (.int .i64 (k : Int)) := hp2.cell 1
              have zP : wi.heap.size + 1 < w8.heap.size := hp2.lt
              have zP0 : wi.heap.size < w8.heap.size := hp1.lt
              clear hw8 hp1 hp2 l0 hb8
              go_region_held3 (fun w' => w'.cell? ⟨wi.heap.size, 0, none⟩ = some (.bool false) ∧ w'.cell? ⟨wi.heap.size, 1, none⟩ = some (.int .i64 ((k : Int) + 1)) ∧ w'.cell? ⟨wi.heap.size + 1, 0, none⟩ = some (.bool false) ∧ w'.cell? ⟨wi.heap.size + 1, 1, none⟩ = some (.int .i64 (k : Int))) (go_keep)
                (first
                | (go_at_call 54; refine (refLayT_any _ _).mono ?_; rintro e wt ⟨rfl, hbt⟩; have ht1 := HP8.out.1.below (bundrew hbt) zP0; have ht2 := HP8.out.2.below (bundrew hbt) zP; have ot0 : wt.cell? ⟨wi.heap.size, 0, none⟩ = some (.bool false) := ht1.cell 0; have ot1 : wt.cell? ⟨wi.heap.size, 1, none⟩ = some (.int .i64 ((k : Int) + 1)) := ht1.cell 1; have pt0 : wt.cell? ⟨wi.heap.size + 1, 0, none⟩ = some (.bool false) := ht2.cell 0; have pt1 : wt.cell? ⟨wi.heap.size + 1, 1, none⟩ = some (.int .i64 (k : Int)) := ht2.cell 1; have HBt := Lib.hid (bundrew hbt); have zt := hbt.size; clear hbt ht1 ht2)
                | (go_at_call 53; refine (refAdd_any _ _ HIk.out [⟨false, (k : Int) + 1⟩, ⟨true, x⟩, ⟨false, (k : Int)⟩] _ _ (w.heap.size + 2) (w.heap.size + 4) (w.heap.size + 2) (w.heap.size + 3) (fun b => wi.heap.size ≤ b ∧ b < wi.heap.size + 2 ∨ b = wo.heap.size) (fun _ => False) tm ((ls.length : Int) + 1) 0 _ _ w8 _ HM.out.1.add (FLX.out) (by exact HBt.out.alloc zt _) (by exact els_of_blk [[.bool false, .int .i64 ((k : Int) + 1)], [.bool true, .int .i64 x], [.bool false, .int .i64 (k : Int)]] (Blk'.new wt _ _) rfl rfl (rd_three0 ⟨rfl, HIk2.out⟩ ⟨rfl, HIx.out⟩ ⟨rfl, HIk.out⟩) ⟨zt, by simp⟩) (by simp) HIr.out HLn2.out).mono ?_; rintro e w9 ⟨rfl, hf9, hb9, hx9⟩; have H9 := Lib.hid (And.intro (HM2.out.added (by exact HBt.out.alloc zt _) hf9 hb9) (And.intro ((hx9 wo.heap.size (.inr rfl)).trans ((HM.out.2.below HBt.out HM.out.2.lt).alloc _)) (And.intro ((hx9 wi.heap.size (.inl ⟨by omega, by omega⟩)).trans ((HP8.out.1.below HBt.out zP0).alloc _)) ((hx9 (wi.heap.size + 1) (.inl ⟨by omega, by omega⟩)).trans ((HP8.out.2.below HBt.out zP).alloc _))))); have o90 : w9.cell? ⟨wi.heap.size, 0, none⟩ = some (.bool false) := (show Blk' _ _ _ _ from H9.out.2.2.1).cell 0; have o91 : w9.cell? ⟨wi.heap.size, 1, none⟩ = some (.int .i64 ((k : Int) + 1)) := (show Blk' _ _ _ _ from H9.out.2.2.1).cell 1; have p90 : w9.cell? ⟨wi.heap.size + 1, 0, none⟩ = some (.bool false) := (show Blk' _ _ _ _ from H9.out.2.2.2).cell 0; have p91 : w9.cell? ⟨wi.heap.size + 1, 1, none⟩ = some (.int .i64 (k : Int)) := (show Blk' _ _ _ _ from H9.out.2.2.2).cell 1; clear hf9 hb9 hx9))
              go_wp2
              go_roundw
              case rel => exact ⟨m + 1, r2 + 1, _, _, hlm, by go_num, rfl, by omega, by simp; omega, HR6.out, H9.out.1.sub (fun b hb => .inr hb), H9.out.2.1, by rw [← ERq.out]; exact ER3.out, EL3.out⟩
              case measure => simp [intOf]; omega
            obtain rfl : kd = 3 := by omega
            have ERq := Lib.hid (show layRule 3 k x = ⟨(k : Int), [⟨true, x⟩, ⟨false, (k : Int)⟩]⟩ by simp [layRule])
            go_wp2_with fail
            obtain ⟨w8, hw8⟩ : ∃ w8 : World, w8 = (wi.alloc (.cells #[.bool false, .int .i64 ((k : Int) + 1)] 88)).alloc (.cells #[.bool false, .int .i64 (k : Int)] 88) := ⟨_, rfl⟩
            rw [← hw8]
            have hb8 : Below wi.heap.size wi w8 := by rw [hw8]; exact ((Below.refl _ _).alloc (Nat.le_refl _) _).alloc (by simp) _
            have hp1 : Blk' w8 wi.heap.size 88 #[.bool false, .int .i64 ((k : Int) + 1)] := by rw [hw8]; exact (Blk'.new _ _ _).alloc _
            have hp2 : Blk' w8 (wi.heap.size + 1) 88 #[.bool false, .int .i64 (k : Int)] := by rw [hw8]; exact Blk'.new' _ _ _ (by simp)
            have HM := Lib.hid (And.intro (H8.out.below hb8) (HL8.out.below hb8 zL))
            have HM2 := Lib.hid (show FL (fun b => wi.heap.size ≤ b ∧ b < wi.heap.size + 2 ∨ b = wo.heap.size) w ⟨tm, at_, op, cl, ls⟩ (some ⟨b, o, none⟩) c rs1 lv1 w8 from H8.out.guardOr hb8 (by rw [hw8]; simp))
            have FLX := Lib.hid HM2.out.2.2.2
            have HP8 := Lib.hid (And.intro hp1 hp2)
            have o80 : w8.cell? ⟨wi.heap.size, 0, none⟩ = some (.bool false) := hp1.cell 0
            have o81 : w8.cell? ⟨wi.heap.size, 1, none⟩ = some (.int .i64 ((k : Int) + 1)) := hp1.cell 1
            have p80 : w8.cell? ⟨wi.heap.size + 1, 0, none⟩ = some (.bool false) := hp2.cell 0
            have p81 : w8.cell? ⟨wi.heap.size + 1, 1, none⟩ = some (.int .i64 (k : Int)) := hp2.cell 1
            have zP : wi.heap.size + 1 < w8.heap.size := hp2.lt
            have zP0 : wi.heap.size < w8.heap.size := hp1.lt
            clear hw8 hp1 hp2 l0 hb8
            go_region_held3 (fun w' => w'.cell? ⟨wi.heap.size, 0, none⟩ = some (.bool false) ∧ w'.cell? ⟨wi.heap.size, 1, none⟩ = some (.int .i64 ((k : Int) + 1)) ∧ w'.cell? ⟨wi.heap.size + 1, 0, none⟩ = some (.bool false) ∧ w'.cell? ⟨wi.heap.size + 1, 1, none⟩ = some (.int .i64 (k : Int))) (go_keep)
              (first
              | (go_at_call 54; refine (refLayT_any _ _).mono ?_; rintro e wt ⟨rfl, hbt⟩; have ht1 := HP8.out.1.below (bundrew hbt) zP0; have ht2 := HP8.out.2.below (bundrew hbt) zP; have ot0 : wt.cell? ⟨wi.heap.size, 0, none⟩ = some (.bool false) := ht1.cell 0; have ot1 : wt.cell? ⟨wi.heap.size, 1, none⟩ = some (.int .i64 ((k : Int) + 1)) := ht1.cell 1; have pt0 : wt.cell? ⟨wi.heap.size + 1, 0, none⟩ = some (.bool false) := ht2.cell 0; have pt1 : wt.cell? ⟨wi.heap.size + 1, 1, none⟩ = some (.int .i64 (k : Int)) := ht2.cell 1; have HBt := Lib.hid (bundrew hbt); have zt := hbt.size; clear hbt ht1 ht2)
              | (go_at_call 53; refine (refAdd_any _ _ HIk.out [⟨true, x⟩, ⟨false, (k : Int)⟩] _ _ (w.heap.size + 2) (w.heap.size + 4) (w.heap.size + 2) (w.heap.size + 3) (fun b => wi.heap.size ≤ b ∧ b < wi.heap.size + 2 ∨ b = wo.heap.size) (fun _ => False) tm ((ls.length : Int) + 1) 0 _ _ w8 _ HM.out.1.add (FLX.out) (by exact HBt.out.alloc zt _) (by exact els_of_blk [[.bool true, .int .i64 x], [.bool false, .int .i64 (k : Int)]] (Blk'.new wt _ _) rfl rfl (rd_two ⟨rfl, HIx.out⟩ ⟨rfl, HIk.out⟩) ⟨zt, by simp⟩) (by simp) HIr.out HLn2.out).mono ?_; rintro e w9 ⟨rfl, hf9, hb9, hx9⟩; have H9 := Lib.hid (And.intro (HM2.out.added (by exact HBt.out.alloc zt _) hf9 hb9) (And.intro ((hx9 wo.heap.size (.inr rfl)).trans ((HM.out.2.below HBt.out HM.out.2.lt).alloc _)) (And.intro ((hx9 wi.heap.size (.inl ⟨by omega, by omega⟩)).trans ((HP8.out.1.below HBt.out zP0).alloc _)) ((hx9 (wi.heap.size + 1) (.inl ⟨by omega, by omega⟩)).trans ((HP8.out.2.below HBt.out zP).alloc _))))); have o90 : w9.cell? ⟨wi.heap.size, 0, none⟩ = some (.bool false) := (show Blk' _ _ _ _ from H9.out.2.2.1).cell 0; have o91 : w9.cell? ⟨wi.heap.size, 1, none⟩ = some (.int .i64 ((k : Int) + 1)) := (show Blk' _ _ _ _ from H9.out.2.2.1).cell 1; have p90 : w9.cell? ⟨wi.heap.size + 1, 0, none⟩ = some (.bool false) := (show Blk' _ _ _ _ from H9.out.2.2.2).cell 0; have p91 : w9.cell? ⟨wi.heap.size + 1, 1, none⟩ = some (.int .i64 (k : Int)) := (show Blk' _ _ _ _ from H9.out.2.2.2).cell 1; clear hf9 hb9 hx9))
            go_wp2
            go_roundw
            case rel => exact ⟨m + 1, r2 + 1, _, _, hlm, by go_num, rfl, by omega, by simp; omega, HR6.out, H9.out.1.sub (fun b hb => .inr hb), H9.out.2.1, by rw [← ERq.out]; exact ER3.out, EL3.out⟩
            case measure => simp [intOf]; omega
          · have ER4 := Lib.hid (show layRules bb ⟨tm, at_, op, cl, ls⟩ = rs1 ++ (⟨(k : Int), [⟨false, (k : Int) + 1⟩]⟩ :: (layFrom (k + 1) (ls.drop (k + 1)) ++ layTailR bb ⟨tm, at_, op, cl, ls⟩)) by rw [HR.out, List.drop_of_length_le (by omega)]; rfl)
            have EL4 := Lib.hid (show layTo bb ⟨tm, at_, op, cl, ls⟩ = lv1 ++ (-1 :: (toFrom r2 (ls.drop (k + 1)) ++ layTailL bb)) by rw [HL.out, List.drop_of_length_le (by omega)]; have e : r + (os.length : Int) = r2 := by { have := HR5.out; omega }; rw [e]; rfl)
            have ER5 := Lib.hid (show layRules bb ⟨tm, at_, op, cl, ls⟩ = (rs1 ++ [⟨(k : Int), [⟨false, (k : Int) + 1⟩]⟩]) ++ (layFrom (k + 1) (ls.drop (k + 1)) ++ layTailR bb ⟨tm, at_, op, cl, ls⟩) by rw [ER4.out]; simp)
            have EL5 := Lib.hid (show layTo bb ⟨tm, at_, op, cl, ls⟩ = (lv1 ++ [-1]) ++ (toFrom r2 (ls.drop (k + 1)) ++ layTailL bb) by rw [EL4.out]; simp)
            clear HR HL ER4 EL4 HR5
            go_wp2_with fail
            refine (refAdd_any _ _ HIk.out [⟨false, (k : Int) + 1⟩] _ _ (w.heap.size + 2) (w.heap.size + 4) (w.heap.size + 2) (w.heap.size + 3) (fun b => b = wo.heap.size) (fun _ => False) tm ((ls.length : Int) + 1) 0 _ _ wi _ H8.out.add H8.out.2.2.2 (by exact (Below.refl _ _).alloc (Nat.le_refl _) _) (by exact els_of_blk [[.bool false, .int .i64 ((k : Int) + 1)]] (Blk'.new wi _ _) rfl rfl (rd_one ⟨rfl, HIk2.out⟩) ⟨by omega, by simp⟩) (by simp) ⟨by decide, by decide⟩ HLn2.out).mono ?_
            rintro e w9 ⟨rfl, hf9, hb9, hx9⟩
            have H9 := Lib.hid (H8.out.added (by exact (Below.refl _ _).alloc (Nat.le_refl _) _) hf9 hb9)
            clear hf9 hb9 hx9
            go_wp2
            go_roundw
            case rel => exact ⟨k + 1, r2, _, _, hlt, by go_num, rfl, hr3, by simp; omega, H9.out.free, ER5.out, EL5.out⟩
            case measure => simp [intOf]; omega
      · have a1 : wo.cell? ⟨w.heap.size, 1, none⟩ = some (.int .i64 at_) := H7.out.2.1.cell 1
        have a4 : wo.cell? ⟨w.heap.size, 4, none⟩ = some (.slice A ls.length c) := H7.out.2.1.cell 4
        have ER := Lib.hid (show layRules bb ⟨tm, at_, op, cl, ls⟩ = rs ++ layTailR bb ⟨tm, at_, op, cl, ls⟩ by rw [HR.out, List.drop_of_length_le (by omega)]; rfl)
        have EL := Lib.hid (show layTo bb ⟨tm, at_, op, cl, ls⟩ = lv ++ layTailL bb by rw [HL.out, List.drop_of_length_le (by omega)]; rfl)
        clear HR HL
        go_wp2_with fail
        go_region_held3 (fun w' => w'.cell? ⟨w.heap.size, 1, none⟩ = some (.int .i64 at_) ∧ w'.cell? ⟨w.heap.size, 4, none⟩ = some (.slice A ls.length c)) (go_keep)
          (first
          | (go_at_call 54; refine (refLayT_any _ _).mono ?_; rintro e wt ⟨rfl, hbt⟩; have ht := H7.out.below (bundrew hbt); have ct1 : wt.cell? ⟨w.heap.size, 1, none⟩ = some (.int .i64 at_) := ht.2.1.cell 1; have ct4 : wt.cell? ⟨w.heap.size, 4, none⟩ = some (.slice A ls.length c) := ht.2.1.cell 4; have HBt := Lib.hid (bundrew hbt); have zt := hbt.size; clear hbt ht)
          | (go_at_call 53; refine (refAdd_any _ _ HIn.out [⟨true, at_⟩] _ _ (w.heap.size + 2) (w.heap.size + 4) (w.heap.size + 2) (w.heap.size + 3) (fun _ => False) (fun _ => False) tm ((ls.length : Int) + 1) 0 _ _ wo _ H7.out.add H7.out.2.2.2 (by exact HBt.out.alloc zt _) (by exact els_of_blk [[.bool true, .int .i64 at_]] (Blk'.new wt _ _) rfl rfl (rd_one ⟨rfl, H64.out.2.1⟩) ⟨zt, by simp⟩) (by simp) ⟨by decide, by decide⟩ HLn.out).mono ?_; rintro e w9 ⟨rfl, hf9, hb9, _⟩; have H9 := Lib.hid (H7.out.added (by exact HBt.out.alloc zt _) hf9 hb9); have c91 : w9.cell? ⟨w.heap.size, 1, none⟩ = some (.int .i64 at_) := H9.out.2.1.cell 1; have c94 : w9.cell? ⟨w.heap.size, 4, none⟩ = some (.slice A ls.length c) := H9.out.2.1.cell 4; clear hf9 hb9))
        have c92 : w9.cell? ⟨w.heap.size, 2, none⟩ = some (.int .i64 op) := H9.out.2.1.cell 2
        have c93 : w9.cell? ⟨w.heap.size, 3, none⟩ = some (.int .i64 cl) := H9.out.2.1.cell 3
        have HLn3 : Hid ((rs ++ [(⟨(ls.length : Int), [⟨true, at_⟩]⟩ : Rule)]).length ≤ 1000000 ∧ (lv ++ [(0 : Int)]).length ≤ 1000000) := Lib.hid (by have h := HN.out; rw [ER.out, EL.out] at h; simp only [layTailR, layTailL, List.length_append, List.length_cons] at h; simp only [List.length_append, List.length_cons, List.length_nil]; omega)
        clear a1 a4 HBt zt hrb HLn ct1 ct4
        by_cases hop2 : op = -1
        · first
            | exact absurd hop2 HOP.out
            | (have ER5 := Lib.hid (show layRules bb ⟨tm, at_, op, cl, ls⟩ = rs ++ [⟨(ls.length : Int), [⟨true, at_⟩]⟩] by rw [ER.out, HB.out]; rfl)
               have EL5 := Lib.hid (show layTo bb ⟨tm, at_, op, cl, ls⟩ = lv ++ [0] by rw [EL.out, HB.out]; rfl)
               clear hop2
               obtain ⟨v1, v2, hG, hL, h2, hX⟩ := H9.out.2.2.2
               obtain ⟨A1, n1, c1, rfl⟩ : ∃ A n c, v1 = Value.slice A n c := by obtain ⟨A, c, e, _⟩ := h2.1.form; exact ⟨_, _, _, e⟩
               obtain ⟨A2, n2, c2, rfl⟩ : ∃ A n c, v2 = Value.slice A n c := by obtain ⟨A, c, e, _⟩ := h2.2.1.form; exact ⟨_, _, _, e⟩
               have g0 : w9.cell? ⟨w.heap.size + 1 + 1, 0, none⟩ = some (.int .i64 tm) := hG.cell 0
               have g1 : w9.cell? ⟨w.heap.size + 1 + 1, 1, none⟩ = some (.int .i64 ((ls.length : Int) + 1)) := hG.cell 1
               have g2 : w9.cell? ⟨w.heap.size + 1 + 1, 2, none⟩ = some (.int .i64 0) := hG.cell 2
               have g3 : w9.cell? ⟨w.heap.size + 1 + 1, 3, none⟩ = some (.slice A1 n1 c1) := hG.cell 3
               have l0 : w9.cell? ⟨w.heap.size + 1 + 1 + 1, 0, none⟩ = some (.slice A2 n2 c2) := hL.cell 0
               have r0 : w9.cell? ⟨w.heap.size + 1, 0, none⟩ = some (.int .i64 0) := H9.out.2.2.1.cell 0
               have r1 : w9.cell? ⟨w.heap.size + 1, 1, none⟩ = some (.int .i64 0) := H9.out.2.2.1.cell 1
               have r2 : w9.cell? ⟨w.heap.size + 1, 2, none⟩ = some (.int .i64 0) := H9.out.2.2.1.cell 2
               have r3 : w9.cell? ⟨w.heap.size + 1, 3, none⟩ = some (.slice none 0 0) := H9.out.2.2.1.cell 3
               have f0 := H9.out.2.2.1.frozen 0
               have f1 := H9.out.2.2.1.frozen 1
               have f2 := H9.out.2.2.1.frozen 2
               have f3 := H9.out.2.2.1.frozen 3
               have H2 := Lib.hid h2
               have HW := Lib.hid ((((H9.out.2.2.1.set_ 0 (.int .i64 tm)).set_ 1 (.int .i64 ((ls.length : Int) + 1))).set_ 2 (.int .i64 0)).set_ 3 (.slice A1 n1 c1))
               have HT2 := Lib.hid (((((h2.set_ (p := ⟨w.heap.size + 1, 0, none⟩) (by simp) (.int .i64 tm)).set_ (p := ⟨w.heap.size + 1, 1, none⟩) (by simp) (.int .i64 ((ls.length : Int) + 1))).set_ (p := ⟨w.heap.size + 1, 2, none⟩) (by simp) (.int .i64 0)).set_ (p := ⟨w.heap.size + 1, 3, none⟩) (by simp) (.slice A1 n1 c1)).drew)
               have HBl := Lib.hid (((((H9.out.1.setCell (p := ⟨w.heap.size + 1, 0, none⟩) (by simp) (.int .i64 tm)).setCell (p := ⟨w.heap.size + 1, 1, none⟩) (by simp) (.int .i64 ((ls.length : Int) + 1))).setCell (p := ⟨w.heap.size + 1, 2, none⟩) (by simp) (.int .i64 0)).setCell (p := ⟨w.heap.size + 1, 3, none⟩) (by simp) (.slice A1 n1 c1)).drew)
               clear hG hL h2 hX
               go_wp2_with fail
               go_region
               all_goals
                 have q0 := HW.out.cell 0
                 have q1 := HW.out.cell 1
                 have q2 := HW.out.cell 2
                 have q3 := HW.out.cell 3
                 simp at q0 q1 q2 q3
                 clear g0 g1 g2 g3 l0 r0 r1 r2 r3 f0 f1 f2 f3
                 go_wp2
                 exact bodyPost_ret (v := .tuple #[.agg #[.int .i64 tm, .int .i64 ((ls.length : Int) + 1), .int .i64 0, .slice A1 n1 c1], .slice A2 n2 c2]) (by simp [results, Try.results15, go_sem, q0, q1, q2, q3]) rfl ⟨_, _, rfl, by rw [ER5.out, EL5.out]; exact HT2.out.rebase (by omega), HBl.out⟩)
        · first
            | exact absurd HOP.out hop2
            | (have ER5 := Lib.hid (show layRules bb ⟨tm, at_, op, cl, ls⟩ = (rs ++ [⟨(ls.length : Int), [⟨true, at_⟩]⟩]) ++ [⟨(ls.length : Int), [⟨true, op⟩, ⟨false, 0⟩, ⟨true, cl⟩]⟩] by rw [ER.out, HB.out]; simp [layTailR])
               have EL5 := Lib.hid (show layTo bb ⟨tm, at_, op, cl, ls⟩ = (lv ++ [0]) ++ [1] by rw [EL.out, HB.out]; simp [layTailL])
               clear hop2
               go_wp2_with fail
               go_region_held3 (fun w' => w'.cell? ⟨w.heap.size, 2, none⟩ = some (.int .i64 op) ∧ w'.cell? ⟨w.heap.size, 3, none⟩ = some (.int .i64 cl) ∧ w'.cell? ⟨w.heap.size, 4, none⟩ = some (.slice A ls.length c)) (go_keep)
                 (first
                 | (go_at_call 54; refine (refLayT_any _ _).mono ?_; rintro e wt ⟨rfl, hbt⟩; have ht := H9.out.below (bundrew hbt); have ct2 : wt.cell? ⟨w.heap.size, 2, none⟩ = some (.int .i64 op) := ht.2.1.cell 2; have ct3 : wt.cell? ⟨w.heap.size, 3, none⟩ = some (.int .i64 cl) := ht.2.1.cell 3; have ct4 : wt.cell? ⟨w.heap.size, 4, none⟩ = some (.slice A ls.length c) := ht.2.1.cell 4; have HBt := Lib.hid (bundrew hbt); have HT := Lib.hid ht; have zt := hbt.size; clear hbt ht)
                 | (go_at_call 54; refine (refLayT_any _ _).mono ?_; rintro e wu ⟨rfl, hbu⟩; have ht := HT.out.below hbu; have cu2 : wu.cell? ⟨w.heap.size, 2, none⟩ = some (.int .i64 op) := ht.2.1.cell 2; have cu3 : wu.cell? ⟨w.heap.size, 3, none⟩ = some (.int .i64 cl) := ht.2.1.cell 3; have cu4 : wu.cell? ⟨w.heap.size, 4, none⟩ = some (.slice A ls.length c) := ht.2.1.cell 4; have HBu := Lib.hid (bthen HBt.out hbu zt); have zu := Nat.le_trans zt hbu.size; clear hbu ht)
                 | (go_at_call 53; refine (refAdd_any _ _ HIn.out [⟨true, op⟩, ⟨false, 0⟩, ⟨true, cl⟩] _ _ (w.heap.size + 2) (w.heap.size + 4) (w.heap.size + 2) (w.heap.size + 3) (fun _ => False) (fun _ => False) tm ((ls.length : Int) + 1) 0 _ _ w9 _ H9.out.add H9.out.2.2.2 (by exact HBu.out.alloc zu _) (by exact els_of_blk [[.bool true, .int .i64 op], [.bool false, .int .i64 0], [.bool true, .int .i64 cl]] (Blk'.new wu _ _) rfl rfl (rd_three0 ⟨rfl, H64.out.2.2.1⟩ ⟨rfl, by decide, by decide⟩ ⟨rfl, H64.out.2.2.2⟩) ⟨zu, by simp⟩) (by simp) ⟨by decide, by decide⟩ HLn3.out).mono ?_; rintro e w11 ⟨rfl, hf11, hb11, _⟩; have H11 := Lib.hid (H9.out.added (by exact HBu.out.alloc zu _) hf11 hb11); have c112 : w11.cell? ⟨w.heap.size, 2, none⟩ = some (.int .i64 op) := H11.out.2.1.cell 2; have c113 : w11.cell? ⟨w.heap.size, 3, none⟩ = some (.int .i64 cl) := H11.out.2.1.cell 3; have c114 : w11.cell? ⟨w.heap.size, 4, none⟩ = some (.slice A ls.length c) := H11.out.2.1.cell 4; clear hf11 hb11))
               obtain ⟨v1, v2, hG, hL, h2, hX⟩ := H11.out.2.2.2
               obtain ⟨A1, n1, c1, rfl⟩ : ∃ A n c, v1 = Value.slice A n c := by obtain ⟨A, c, e, _⟩ := h2.1.form; exact ⟨_, _, _, e⟩
               obtain ⟨A2, n2, c2, rfl⟩ : ∃ A n c, v2 = Value.slice A n c := by obtain ⟨A, c, e, _⟩ := h2.2.1.form; exact ⟨_, _, _, e⟩
               have g0 : w11.cell? ⟨w.heap.size + 1 + 1, 0, none⟩ = some (.int .i64 tm) := hG.cell 0
               have g1 : w11.cell? ⟨w.heap.size + 1 + 1, 1, none⟩ = some (.int .i64 ((ls.length : Int) + 1)) := hG.cell 1
               have g2 : w11.cell? ⟨w.heap.size + 1 + 1, 2, none⟩ = some (.int .i64 0) := hG.cell 2
               have g3 : w11.cell? ⟨w.heap.size + 1 + 1, 3, none⟩ = some (.slice A1 n1 c1) := hG.cell 3
               have l0 : w11.cell? ⟨w.heap.size + 1 + 1 + 1, 0, none⟩ = some (.slice A2 n2 c2) := hL.cell 0
               have r0 : w11.cell? ⟨w.heap.size + 1, 0, none⟩ = some (.int .i64 0) := H11.out.2.2.1.cell 0
               have r1 : w11.cell? ⟨w.heap.size + 1, 1, none⟩ = some (.int .i64 0) := H11.out.2.2.1.cell 1
               have r2 : w11.cell? ⟨w.heap.size + 1, 2, none⟩ = some (.int .i64 0) := H11.out.2.2.1.cell 2
               have r3 : w11.cell? ⟨w.heap.size + 1, 3, none⟩ = some (.slice none 0 0) := H11.out.2.2.1.cell 3
               have f0 := H11.out.2.2.1.frozen 0
               have f1 := H11.out.2.2.1.frozen 1
               have f2 := H11.out.2.2.1.frozen 2
               have f3 := H11.out.2.2.1.frozen 3
               have H2 := Lib.hid h2
               have HW := Lib.hid ((((H11.out.2.2.1.set_ 0 (.int .i64 tm)).set_ 1 (.int .i64 ((ls.length : Int) + 1))).set_ 2 (.int .i64 0)).set_ 3 (.slice A1 n1 c1))
               have HT2 := Lib.hid (((((h2.set_ (p := ⟨w.heap.size + 1, 0, none⟩) (by simp) (.int .i64 tm)).set_ (p := ⟨w.heap.size + 1, 1, none⟩) (by simp) (.int .i64 ((ls.length : Int) + 1))).set_ (p := ⟨w.heap.size + 1, 2, none⟩) (by simp) (.int .i64 0)).set_ (p := ⟨w.heap.size + 1, 3, none⟩) (by simp) (.slice A1 n1 c1)).drew)
               have HBl := Lib.hid (((((H11.out.1.setCell (p := ⟨w.heap.size + 1, 0, none⟩) (by simp) (.int .i64 tm)).setCell (p := ⟨w.heap.size + 1, 1, none⟩) (by simp) (.int .i64 ((ls.length : Int) + 1))).setCell (p := ⟨w.heap.size + 1, 2, none⟩) (by simp) (.int .i64 0)).setCell (p := ⟨w.heap.size + 1, 3, none⟩) (by simp) (.slice A1 n1 c1)).drew)
               clear hG hL h2 hX
               go_wp2_with fail
               go_region
               all_goals
                 have q0 := HW.out.cell 0
                 have q1 := HW.out.cell 1
                 have q2 := HW.out.cell 2
                 have q3 := HW.out.cell 3
                 simp at q0 q1 q2 q3
                 clear g0 g1 g2 g3 l0 r0 r1 r2 r3 f0 f1 f2 f3
                 go_wp2
                 exact bodyPost_ret (v := .tuple #[.agg #[.int .i64 tm, .int .i64 ((ls.length : Int) + 1), .int .i64 0, .slice A1 n1 c1], .slice A2 n2 c2]) (by simp [results, Try.results15, go_sem, q0, q1, q2, q3]) rfl ⟨_, _, rfl, by rw [ER5.out, EL5.out]; exact HT2.out.rebase (by omega), HBl.out⟩)
end Go.Proofs.Ytlbhaegdcpacpaa
