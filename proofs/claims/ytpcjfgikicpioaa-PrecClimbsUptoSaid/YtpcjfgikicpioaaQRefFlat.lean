/- Contract: the reference's FlatOf. -/
import Derived.Test.YtpcjfgikicpioaaQRefFlatAdd
import Derived.Test.YtpcjfgikicpioaaQPrecFlat
import Derived.Deep.DeepCutAuto
namespace Go.Proofs.Ytpcjfgikicpioaa
open Go.RowKit
set_option linter.unusedVariables false

theorem G1.guardAdd {X : Nat → Prop} {B G : Nat} {t n s : Int} {rs : List Rule} {w : World} (h : G1 X B G t n s rs w) (o : Obj) : G1 (fun b => X b ∨ b = w.heap.size) B G t n s rs (w.alloc o) := by
  obtain ⟨u, q1, q2, q3⟩ := h
  refine ⟨u, q1.alloc o, q2.alloc o, fun b hb => ?_⟩
  rcases hb with hb | rfl
  · exact ⟨by have := (q3 b hb).1; simp; omega, (q3 b hb).2⟩
  · exact ⟨by simp, fun e => by have := q1.lt; omega, fun e => by have := (q2.block _ e).2; omega⟩
def flatRulesB (b : Bool) (t : Table) : List Rule := ⟨0, [⟨true, t.atom⟩]⟩ :: ((if b then [⟨0, [⟨true, t.opn⟩, ⟨false, 0⟩, ⟨true, t.cls⟩]⟩] else []) ++ (t.levels.map levRules).flatten)

/-- The state of FlatOf. -/
def GF (X : Nat → Prop) (w : World) (t : Table) (A : Option Addr) (c E G : Nat) (rs : List Rule) (wr : World) : Prop :=
  Below w.heap.size w wr ∧ Blk' wr w.heap.size 24 #[.int .i64 t.terms, .int .i64 t.atom, .int .i64 t.opn, .int .i64 t.cls, .slice A t.levels.length c] ∧
    Blk' wr (w.heap.size + 1) 37 #[.int .i64 0, .int .i64 0, .int .i64 0, .slice none 0 0] ∧ Blk' wr E 73 #[.bool false, .int .i64 0] ∧
    (w.heap.size + 2 ≤ E ∧ w.heap.size + 2 ≤ G ∧ G < w.heap.size + 4 ∧ w.heap.size + 4 ≤ wr.heap.size) ∧ X E ∧ G1 X (w.heap.size + 4) G t.terms 1 0 rs wr
section
variable {X : Nat → Prop} {w wr : World} {t : Table} {A : Option Addr} {c E G : Nat} {rs : List Rule}
theorem GF.below {w' : World} (h : GF X w t A c E G rs wr) (hb : Below wr.heap.size wr w') : GF X w t A c E G rs w' := by
  obtain ⟨h1, h2, h3, h4, h5, h6, h7⟩ := h
  exact ⟨bthen h1 hb h1.size, h2.below hb h2.lt, h3.below hb h3.lt, h4.below hb h4.lt, ⟨h5.1, h5.2.1, h5.2.2.1, Nat.le_trans h5.2.2.2 hb.size⟩, h6, h7.below hb⟩
theorem GF.added {wm w' : World} {rs' : List Rule} (h : GF X w t A c E G rs wr) (hb : Below wr.heap.size wr wm) (hf : G1 X (w.heap.size + 4) G t.terms 1 0 rs' w') (hb' : Below (w.heap.size + 2) wm w') (hx : ∀ b, X b → w'.heap[b]? = wm.heap[b]?) : GF X w t A c E G rs' w' := by
  obtain ⟨h1, h2, h3, h4, h5, h6, h7⟩ := h
  have hb2 := (hb.mono (show w.heap.size + 2 ≤ wr.heap.size by omega)).trans hb'
  exact ⟨h1.trans (hb2.mono (by omega)), h2.below hb2 (by omega), h3.below hb2 (by omega), (hx E h6).trans (h4.below hb h4.lt), ⟨h5.1, h5.2.1, h5.2.2.1, Nat.le_trans h5.2.2.2 hb2.size⟩, h6, hf⟩
theorem GF.add (h : GF X w t A c E G rs wr) : w.heap.size + 2 ≤ G ∧ G < w.heap.size + 4 ∧ w.heap.size + 4 ≤ wr.heap.size := ⟨h.2.2.2.2.1.2.1, h.2.2.2.2.1.2.2.1, h.2.2.2.2.1.2.2.2⟩
theorem GF.guard (h : GF X w t A c E G rs wr) (o : Obj) : GF (fun b => X b ∨ b = wr.heap.size) w t A c E G rs (wr.alloc o) := by
  have h' := h.below ((Below.refl wr.heap.size wr).alloc (Nat.le_refl _) o)
  exact ⟨h'.1, h'.2.1, h'.2.2.1, h'.2.2.2.1, h'.2.2.2.2.1, .inl h.2.2.2.2.2.1, h.2.2.2.2.2.2.guardAdd o⟩
theorem GF.sub {X' : Nat → Prop} (h : GF X w t A c E G rs wr) (hx : ∀ b, X' b → X b) (hE : X' E) : GF X' w t A c E G rs wr :=
  ⟨h.1, h.2.1, h.2.2.1, h.2.2.2.1, h.2.2.2.2.1, hE, h.2.2.2.2.2.2.sub hx⟩
end
def OutG (b : Bool) (w : World) (t : Table) (A : Option Addr) (c E G : Nat) (i : Value) (wr : World) : Prop :=
  ∃ (k : Nat) (rs : List Rule), k ≤ t.levels.length ∧ i = .int .i64 k ∧ GF (fun b => b = E) w t A c E G rs wr ∧ flatRulesB b t = rs ++ ((t.levels.drop k).map levRules).flatten
def InG (b : Bool) (w : World) (t : Table) (A : Option Addr) (c E G : Nat) (kd : Int) (os : List Int) (Lb : Nat) (Ao : Option Addr) (co : Nat) (R1 : List Rule) (i : Value) (wr : World) : Prop :=
  ∃ (m : Nat) (rs : List Rule), m ≤ os.length ∧ i = .int .i64 m ∧ GF (fun b => b = E ∨ b = Lb) w t A c E G rs wr ∧ Blk' wr Lb 79 #[.int .i64 kd, .slice Ao os.length co] ∧ flatRulesB b t = rs ++ ((os.drop m).map (opRule kd) ++ R1)

theorem gf_start1 (w : World) (tm at_ op cl : Int) {A : Option Addr} {c : Nat} {ls : List Level} : GF (fun b => b = w.heap.size + 2) w ⟨tm, at_, op, cl, ls⟩ A c (w.heap.size + 2) (w.heap.size + 3) [] ((((w.alloc (.cells #[.int .i64 tm, .int .i64 at_, .int .i64 op, .int .i64 cl, .slice A ls.length c] 24)).alloc (.cells #[.int .i64 0, .int .i64 0, .int .i64 0, .slice none 0 0] 37)).alloc (.cells #[.bool false, .int .i64 0] 73)).alloc (.cells #[.int .i64 tm, .int .i64 1, .int .i64 0, .slice none 0 0] 37)).drew :=
  ⟨(((((Below.refl _ _).alloc (Nat.le_refl _) _).alloc (by simp) _).alloc (by simp <;> omega) _).alloc (by simp <;> omega) _).drew, ((((Blk'.new w _ _).alloc _).alloc _).alloc _).drew, (((Blk'.new' _ _ _ (by simp)).alloc _).alloc _).drew, ((Blk'.new' _ _ _ (by simp)).alloc _).drew, ⟨by omega, by omega, by omega, by simp⟩, rfl, _, (Blk'.new' _ _ _ (by simp)).drew, Own.nil _ _ _ _, fun b hb => ⟨by subst hb; simp, by subst hb; omega, by simp [Value.ownBlock]⟩⟩
theorem gf_start2 (w : World) (tm at_ op cl : Int) {A : Option Addr} {c : Nat} {ls : List Level} : GF (fun b => b = w.heap.size + 3) w ⟨tm, at_, op, cl, ls⟩ A c (w.heap.size + 3) (w.heap.size + 2) [] ((((w.alloc (.cells #[.int .i64 tm, .int .i64 at_, .int .i64 op, .int .i64 cl, .slice A ls.length c] 24)).alloc (.cells #[.int .i64 0, .int .i64 0, .int .i64 0, .slice none 0 0] 37)).alloc (.cells #[.int .i64 tm, .int .i64 1, .int .i64 0, .slice none 0 0] 37)).alloc (.cells #[.bool false, .int .i64 0] 73)).drew :=
  ⟨(((((Below.refl _ _).alloc (Nat.le_refl _) _).alloc (by simp) _).alloc (by simp <;> omega) _).alloc (by simp <;> omega) _).drew, ((((Blk'.new w _ _).alloc _).alloc _).alloc _).drew, (((Blk'.new' _ _ _ (by simp)).alloc _).alloc _).drew, (Blk'.new' _ _ _ (by simp)).drew, ⟨by omega, by omega, by omega, by simp⟩, rfl, _, ((Blk'.new' _ _ _ (by simp)).alloc _).drew, Own.nil _ _ _ _, fun b hb => ⟨by subst hb; simp, by subst hb; omega, by simp [Value.ownBlock]⟩⟩

set_option maxRecDepth 100000 in
set_option maxHeartbeats 4000000 in
theorem refFlat_any (t : Table) (A : Option Addr) (c : Nat) (S : Nat → Prop) (w : World) (h64 : I64 t.terms ∧ I64 t.atom ∧ I64 t.opn ∧ I64 t.cls) (hlc : t.levels.length ≤ c) (hc : c ≤ 9223372036854775807) (hA : Els w S t.levels A) (hS : ∀ b, S b → b < w.heap.size)
    (hN : (flatRulesB (decide (t.opn ≠ -1)) t).length ≤ 1000000) :
    Calls Try.prog 10 #[.agg #[.int .i64 t.terms, .int .i64 t.atom, .int .i64 t.opn, .int .i64 t.cls, .slice A t.levels.length c]] w
      fun e w' => ∃ v, e = .returned (.agg #[.int .i64 t.terms, .int .i64 1, .int .i64 0, v]) ∧ Own w' (fun _ => False) w.heap.size 71 v (flatRulesB (decide (t.opn ≠ -1)) t) ∧ Below w.heap.size w w' := by
  obtain ⟨tm, at_, op, cl, ls⟩ := t
  dsimp only at *
  have H64 := Lib.hid h64
  obtain ⟨bb, hbb⟩ : ∃ bb : Bool, bb = decide (op ≠ -1) := ⟨_, rfl⟩
  rw [← hbb] at hN ⊢
  have HN := Lib.hid hN
  have HBB := Lib.hid hbb
  clear h64 hN hbb
  go_enter Try.func10, Try.ntmps10
  go_upto_region 1 with fail
  go_cut [3, 4] (fun s3 s4 wx => ∃ E G, s3 = .pointer (some ⟨E, 0, none⟩) ∧ s4 = .pointer (some ⟨G, 0, none⟩) ∧ GF (fun b => b = E) w ⟨tm, at_, op, cl, ls⟩ A c E G [] wx)
  case first =>
    go_region
    all_goals
      go_wp2_with fail
      go_meet
      first
        | exact ⟨_, _, rfl, rfl, gf_start1 _ _ _ _ _⟩
        | exact ⟨_, _, rfl, rfl, gf_start2 _ _ _ _ _⟩
  case rest =>
    obtain ⟨E, G, rfl, rfl, hF0⟩ := hcut
    have H1 := Lib.hid hF0
    have t11 : wc.cell? ⟨w.heap.size, 1, none⟩ = some (.int .i64 at_) := hF0.2.1.cell 1
    have z1 : w.heap.size < wc.heap.size := hF0.2.1.lt
    clear hF0
    go_wp2_with fail
    refine (refFlatT_any _ _).mono ?_
    rintro e wt ⟨rfl, hbt⟩
    have HBt := Lib.hid hbt
    have zt := hbt.size
    clear hbt
    go_wp2_with fail
    refine (refFlatAdd_any [⟨true, at_⟩] _ _ (w.heap.size + 2) (w.heap.size + 4) G (fun b => b = E) tm 1 0 _ wc _ H1.out.add H1.out.2.2.2.2.2.2 (by exact HBt.out.alloc zt _) (by exact els_of_blk [[.bool true, .int .i64 at_]] (Blk'.new wt _ _) rfl rfl (rd_one ⟨rfl, H64.out.2.1⟩) ⟨zt, by simp⟩) (by simp) (by simp)).mono ?_
    rintro e w3 ⟨rfl, hf3, hb3, hx3⟩
    have H3 := Lib.hid (H1.out.added (by exact HBt.out.alloc zt _) hf3 hb3 hx3)
    have c32 : w3.cell? ⟨w.heap.size, 2, none⟩ = some (.int .i64 op) := H3.out.2.1.cell 2
    clear hf3 hb3 hx3 H1 HBt zt t11 z1
    by_cases hop : op = -1
    · have hq : (op != -1) = false := by simpa using hop
      have ER : Hid (flatRulesB bb ⟨tm, at_, op, cl, ls⟩ = ([] ++ [⟨0, [⟨true, at_⟩]⟩]) ++ (ls.map levRules).flatten) := Lib.hid (by rw [HBB.out]; simp [flatRulesB, hop])
      have c34 : w3.cell? ⟨w.heap.size, 4, none⟩ = some (.slice A ls.length c) := H3.out.2.1.cell 4
      clear hop
      go_wp2_with fail
      go_loopw [41] (fun i wr => OutG bb w ⟨tm, at_, op, cl, ls⟩ A c E G i wr) (fun i _ => ls.length - (intOf i).toNat)
      case atStart => exact ⟨0, _, Nat.zero_le _, rfl, H3.out, ER.out⟩
      case round =>
        obtain ⟨wo, hwo⟩ : ∃ wo : World, wo = wr := ⟨_, rfl⟩
        subst hwo
        obtain ⟨k, rs, hk, rfl, hF, hr⟩ := hrel
        dsimp only at hk hr
        have H7 := Lib.hid hF
        have HR := Lib.hid hr
        clear hF hr H3 ER
        by_cases hlt : k < ls.length
        · obtain ⟨x, hx⟩ := get_some hlt
          obtain ⟨b, o, Ao, co, rfl, hSb, hbs, hi, hoc, hco, hEo, hc0, hc1⟩ := hA.level hx
          have Hd := Lib.hid (drop_cons hx)
          have hk0 : (0 : Int) ≤ (k : Int) := by omega
          obtain ⟨kd, os⟩ := x
          dsimp only at *
          have d0 : wo.cell? ⟨b, o + k * 2, none⟩ = some (.int .i64 kd) := (H7.out.1.cell (p := ⟨b, o + k * 2, none⟩) hbs).trans hc0
          have d1 : wo.cell? ⟨b, o + k * 2 + 1, none⟩ = some (.slice Ao os.length co) := (H7.out.1.cell (p := ⟨b, o + k * 2 + 1, none⟩) hbs).trans hc1
          have hol : os.length ≤ 9223372036854775807 := by omega
          have HEo := Lib.hid hEo
          have hI := Lib.hid (H7.out.guard (.cells #[.int .i64 kd, .slice Ao os.length co] 79))
          have ER2 : Hid (flatRulesB bb ⟨tm, at_, op, cl, ls⟩ = rs ++ ((os.drop 0).map (opRule kd) ++ ((ls.drop (k + 1)).map levRules).flatten)) := Lib.hid (by rw [HR.out, Hd.out]; rfl)
          clear hx hEo hc0 hc1 HR Hd
          go_wp2_with fail
          go_loopw [48] (fun i wr => InG bb w ⟨tm, at_, op, cl, ls⟩ (some ⟨b, o, none⟩) c E G kd os wo.heap.size Ao co ((ls.drop (k + 1)).map levRules).flatten i wr) (fun i _ => os.length - (intOf i).toNat)
          case atStart => exact ⟨0, _, Nat.zero_le _, rfl, hI.out, Blk'.new _ _ _, ER2.out⟩
          case round =>
            obtain ⟨wi, hwi⟩ : ∃ wi : World, wi = wr := ⟨_, rfl⟩
            subst hwi
            obtain ⟨m, rs1, hm, rfl, hF, hL, hr⟩ := hrel
            have H8 := Lib.hid hF
            have HL8 := Lib.hid hL
            have HR := Lib.hid hr
            have l0 : wi.cell? ⟨wo.heap.size, 0, none⟩ = some (.int .i64 kd) := hL.cell 0
            have e80 : wi.cell? ⟨E, 0, none⟩ = some (.bool false) := hF.2.2.2.1.cell 0
            have e81 : wi.cell? ⟨E, 1, none⟩ = some (.int .i64 0) := hF.2.2.2.1.cell 1
            clear hF hL hr hI ER2 d0 d1
            by_cases hlm : m < os.length
            · obtain ⟨x, hx⟩ := get_some hlm
              obtain ⟨b2, o2, hAo, hSb2, hbs2, hix, hcx⟩ := (HEo.out.belowB H8.out.1 hS).int hx
              subst hAo
              have Hd := Lib.hid (drop_cons hx)
              have hm0 : (0 : Int) ≤ (m : Int) := by omega
              have HIx := Lib.hid hix
              have ER3 : Hid (flatRulesB bb ⟨tm, at_, op, cl, ls⟩ = (rs1 ++ [opRule kd x]) ++ ((os.drop (m + 1)).map (opRule kd) ++ ((ls.drop (k + 1)).map levRules).flatten)) := Lib.hid (by rw [HR.out, Hd.out]; simp)
              have HLn : Hid (rs1.length ≤ 1000000) := Lib.hid (by have h := HN.out; rw [ER3.out] at h; simp only [List.length_append] at h; omega)
              clear hx hix HR
              have zE : E < wi.heap.size := H8.out.2.2.2.1.lt
              by_cases q : kd = 3
              · have hk3 : (kd == 3) = true := by simpa using q
                have ERq := Lib.hid (show opRule kd x = ⟨0, [⟨true, x⟩, ⟨false, 0⟩]⟩ by simp [opRule, q])
                clear q
                go_wp2_with fail
                go_region_held3 (fun w' => w'.cell? ⟨E, 0, none⟩ = some (.bool false) ∧ w'.cell? ⟨E, 1, none⟩ = some (.int .i64 0)) (go_keep)
                  (first
                      | (go_at_call 29; refine (refFlatT_any _ _).mono ?_; rintro e wt ⟨rfl, hbt⟩; have ht := H8.out.below (bundrew hbt); have et0 : wt.cell? ⟨E, 0, none⟩ = some (.bool false) := ht.2.2.2.1.cell 0; have et1 : wt.cell? ⟨E, 1, none⟩ = some (.int .i64 0) := ht.2.2.2.1.cell 1; have HBt := Lib.hid (bundrew hbt); have zt := hbt.size; clear hbt ht)
                      | (go_at_call 28; refine (refFlatAdd_any [⟨true, x⟩, ⟨false, 0⟩] _ _ (w.heap.size + 2) (w.heap.size + 4) G (fun b => b = E ∨ b = wo.heap.size) tm 1 0 _ wi _ H8.out.add H8.out.2.2.2.2.2.2 (by exact HBt.out.alloc zt _) (by exact els_of_blk [[.bool true, .int .i64 x], [.bool false, .int .i64 0]] (Blk'.new wt _ _) rfl rfl (rd_two ⟨rfl, HIx.out⟩ ⟨rfl, by decide, by decide⟩) ⟨zt, by simp⟩) (by simp) HLn.out).mono ?_; rintro e w9 ⟨rfl, hf9, hb9, hx9⟩; have H9 := Lib.hid (And.intro (H8.out.added (by exact HBt.out.alloc zt _) hf9 hb9 hx9) ((hx9 _ (.inr rfl)).trans ((HL8.out.below HBt.out HL8.out.lt).alloc _))); have e90 : w9.cell? ⟨E, 0, none⟩ = some (.bool false) := H9.out.1.2.2.2.1.cell 0; have e91 : w9.cell? ⟨E, 1, none⟩ = some (.int .i64 0) := H9.out.1.2.2.2.1.cell 1; clear hf9 hb9 hx9))
                go_wp2
                go_roundw
                case rel => exact ⟨m + 1, _, hlm, by go_num, H9.out.1, H9.out.2, by rw [← ERq.out]; exact ER3.out⟩
                case measure => simp [intOf]; omega
              · have hk3 : (kd == 3) = false := by simpa using q
                have ERq := Lib.hid (show opRule kd x = ⟨0, [⟨false, 0⟩, ⟨true, x⟩, ⟨false, 0⟩]⟩ by simp [opRule, q])
                clear q
                go_wp2_with fail
                go_region_held3 (fun w' => w'.cell? ⟨E, 0, none⟩ = some (.bool false) ∧ w'.cell? ⟨E, 1, none⟩ = some (.int .i64 0)) (go_keep)
                  (first
                      | (go_at_call 29; refine (refFlatT_any _ _).mono ?_; rintro e wt ⟨rfl, hbt⟩; have ht := H8.out.below (bundrew hbt); have et0 : wt.cell? ⟨E, 0, none⟩ = some (.bool false) := ht.2.2.2.1.cell 0; have et1 : wt.cell? ⟨E, 1, none⟩ = some (.int .i64 0) := ht.2.2.2.1.cell 1; have HBt := Lib.hid (bundrew hbt); have zt := hbt.size; clear hbt ht)
                      | (go_at_call 28; refine (refFlatAdd_any [⟨false, 0⟩, ⟨true, x⟩, ⟨false, 0⟩] _ _ (w.heap.size + 2) (w.heap.size + 4) G (fun b => b = E ∨ b = wo.heap.size) tm 1 0 _ wi _ H8.out.add H8.out.2.2.2.2.2.2 (by exact HBt.out.alloc zt _) (by exact els_of_blk [[.bool false, .int .i64 0], [.bool true, .int .i64 x], [.bool false, .int .i64 0]] (Blk'.new wt _ _) rfl rfl (rd_three0 ⟨rfl, by decide, by decide⟩ ⟨rfl, HIx.out⟩ ⟨rfl, by decide, by decide⟩) ⟨zt, by simp⟩) (by simp) HLn.out).mono ?_; rintro e w9 ⟨rfl, hf9, hb9, hx9⟩; have H9 := Lib.hid (And.intro (H8.out.added (by exact HBt.out.alloc zt _) hf9 hb9 hx9) ((hx9 _ (.inr rfl)).trans ((HL8.out.below HBt.out HL8.out.lt).alloc _))); have e90 : w9.cell? ⟨E, 0, none⟩ = some (.bool false) := H9.out.1.2.2.2.1.cell 0; have e91 : w9.cell? ⟨E, 1, none⟩ = some (.int .i64 0) := H9.out.1.2.2.2.1.cell 1; clear hf9 hb9 hx9))
                go_wp2
                go_roundw
                case rel => exact ⟨m + 1, _, hlm, by go_num, H9.out.1, H9.out.2, by rw [← ERq.out]; exact ER3.out⟩
                case measure => simp [intOf]; omega
            · have ER4 : Hid (flatRulesB bb ⟨tm, at_, op, cl, ls⟩ = rs1 ++ ((ls.drop (k + 1)).map levRules).flatten) := Lib.hid (by rw [HR.out, List.drop_of_length_le (by omega)]; rfl)
              go_wp2
              go_roundw
              case rel => exact ⟨k + 1, _, hlt, by go_num, H8.out.sub (fun b hb => .inl hb) rfl, ER4.out⟩
              case measure => simp [intOf]; omega
        · have ER5 : Hid (flatRulesB bb ⟨tm, at_, op, cl, ls⟩ = rs) := Lib.hid (by rw [HR.out, List.drop_of_length_le (by omega)]; simp)
          obtain ⟨v1, hG, h2, hX⟩ := H7.out.2.2.2.2.2.2
          obtain ⟨A1, n1, c1, rfl⟩ : ∃ A n c, v1 = Value.slice A n c := by obtain ⟨A, c, e, _⟩ := h2.form; exact ⟨_, _, _, e⟩
          have g0 : wo.cell? ⟨G, 0, none⟩ = some (.int .i64 tm) := hG.cell 0
          have g1 : wo.cell? ⟨G, 1, none⟩ = some (.int .i64 1) := hG.cell 1
          have g2 : wo.cell? ⟨G, 2, none⟩ = some (.int .i64 0) := hG.cell 2
          have g3 : wo.cell? ⟨G, 3, none⟩ = some (.slice A1 n1 c1) := hG.cell 3
          have r0 : wo.cell? ⟨w.heap.size + 1, 0, none⟩ = some (.int .i64 0) := H7.out.2.2.1.cell 0
          have r1 : wo.cell? ⟨w.heap.size + 1, 1, none⟩ = some (.int .i64 0) := H7.out.2.2.1.cell 1
          have r2 : wo.cell? ⟨w.heap.size + 1, 2, none⟩ = some (.int .i64 0) := H7.out.2.2.1.cell 2
          have r3 : wo.cell? ⟨w.heap.size + 1, 3, none⟩ = some (.slice none 0 0) := H7.out.2.2.1.cell 3
          have f0 := H7.out.2.2.1.frozen 0
          have f1 := H7.out.2.2.1.frozen 1
          have f2 := H7.out.2.2.1.frozen 2
          have f3 := H7.out.2.2.1.frozen 3
          have HW := Lib.hid ((((H7.out.2.2.1.set_ 0 (.int .i64 tm)).set_ 1 (.int .i64 1)).set_ 2 (.int .i64 0)).set_ 3 (.slice A1 n1 c1))
          have HT2 := Lib.hid ((((h2.setCell (p := ⟨w.heap.size + 1, 0, none⟩) (fun e => by have := (h2.block _ e).1; dsimp only at this; omega) (by simp) (.int .i64 tm)).setCell (p := ⟨w.heap.size + 1, 1, none⟩) (fun e => by have := (h2.block _ e).1; dsimp only at this; omega) (by simp) (.int .i64 1)).setCell (p := ⟨w.heap.size + 1, 2, none⟩) (fun e => by have := (h2.block _ e).1; dsimp only at this; omega) (by simp) (.int .i64 0)).setCell (p := ⟨w.heap.size + 1, 3, none⟩) (fun e => by have := (h2.block _ e).1; dsimp only at this; omega) (by simp) (.slice A1 n1 c1))
          have HBl := Lib.hid ((((H7.out.1.setCell (p := ⟨w.heap.size + 1, 0, none⟩) (by simp) (.int .i64 tm)).setCell (p := ⟨w.heap.size + 1, 1, none⟩) (by simp) (.int .i64 1)).setCell (p := ⟨w.heap.size + 1, 2, none⟩) (by simp) (.int .i64 0)).setCell (p := ⟨w.heap.size + 1, 3, none⟩) (by simp) (.slice A1 n1 c1))
          have q0 := HW.out.cell 0
          have q1 := HW.out.cell 1
          have q2 := HW.out.cell 2
          have q3 := HW.out.cell 3
          simp at q0 q1 q2 q3
          clear hG h2 hX
          go_wp2
          exact bodyPost_ret (v := .agg #[.int .i64 tm, .int .i64 1, .int .i64 0, .slice A1 n1 c1]) (by simp [results, Try.results10, go_sem, q0, q1, q2, q3]) rfl ⟨_, rfl, by rw [ER5.out]; exact HT2.out.base (by omega), HBl.out⟩
    · have hq : (op != -1) = true := by simpa using hop
      have ER : Hid (flatRulesB bb ⟨tm, at_, op, cl, ls⟩ = (([] ++ [⟨0, [⟨true, at_⟩]⟩]) ++ [⟨0, [⟨true, op⟩, ⟨false, 0⟩, ⟨true, cl⟩]⟩]) ++ (ls.map levRules).flatten) := Lib.hid (by rw [HBB.out]; simp [flatRulesB, hop])
      have c33 : w3.cell? ⟨w.heap.size, 3, none⟩ = some (.int .i64 cl) := H3.out.2.1.cell 3
      have e30 : w3.cell? ⟨E, 0, none⟩ = some (.bool false) := H3.out.2.2.2.1.cell 0
      have e31 : w3.cell? ⟨E, 1, none⟩ = some (.int .i64 0) := H3.out.2.2.2.1.cell 1
      clear hop
      go_wp2_with fail
      go_region_held3 (fun w' => w'.cell? ⟨w.heap.size, 2, none⟩ = some (.int .i64 op) ∧ w'.cell? ⟨w.heap.size, 3, none⟩ = some (.int .i64 cl) ∧ w'.cell? ⟨E, 0, none⟩ = some (.bool false) ∧ w'.cell? ⟨E, 1, none⟩ = some (.int .i64 0)) (go_keep)
        (first
        | (go_at_call 29; refine (refFlatT_any _ _).mono ?_; rintro e wt ⟨rfl, hbt⟩; have ht := H3.out.below (bundrew hbt); have ct2 : wt.cell? ⟨w.heap.size, 2, none⟩ = some (.int .i64 op) := ht.2.1.cell 2; have ct3 : wt.cell? ⟨w.heap.size, 3, none⟩ = some (.int .i64 cl) := ht.2.1.cell 3; have et0 : wt.cell? ⟨E, 0, none⟩ = some (.bool false) := ht.2.2.2.1.cell 0; have et1 : wt.cell? ⟨E, 1, none⟩ = some (.int .i64 0) := ht.2.2.2.1.cell 1; have HBt := Lib.hid (bundrew hbt); have HT := Lib.hid ht; have zt := hbt.size; clear hbt ht)
        | (go_at_call 29; refine (refFlatT_any _ _).mono ?_; rintro e wu ⟨rfl, hbu⟩; have ht := HT.out.below hbu; have cu2 : wu.cell? ⟨w.heap.size, 2, none⟩ = some (.int .i64 op) := ht.2.1.cell 2; have cu3 : wu.cell? ⟨w.heap.size, 3, none⟩ = some (.int .i64 cl) := ht.2.1.cell 3; have eu0 : wu.cell? ⟨E, 0, none⟩ = some (.bool false) := ht.2.2.2.1.cell 0; have eu1 : wu.cell? ⟨E, 1, none⟩ = some (.int .i64 0) := ht.2.2.2.1.cell 1; have HBu := Lib.hid (bthen HBt.out hbu zt); have zu := Nat.le_trans zt hbu.size; clear hbu ht)
        | (go_at_call 28; refine (refFlatAdd_any [⟨true, op⟩, ⟨false, 0⟩, ⟨true, cl⟩] _ _ (w.heap.size + 2) (w.heap.size + 4) G (fun b => b = E) tm 1 0 _ w3 _ H3.out.add H3.out.2.2.2.2.2.2 (by exact HBu.out.alloc zu _) (by exact els_of_blk [[.bool true, .int .i64 op], [.bool false, .int .i64 0], [.bool true, .int .i64 cl]] (Blk'.new wu _ _) rfl rfl (rd_three0 ⟨rfl, H64.out.2.2.1⟩ ⟨rfl, by decide, by decide⟩ ⟨rfl, H64.out.2.2.2⟩) ⟨zu, by simp⟩) (by simp) (by simp)).mono ?_; rintro e w5 ⟨rfl, hf5, hb5, hx5⟩; have H5 := Lib.hid (H3.out.added (by exact HBu.out.alloc zu _) hf5 hb5 hx5); have c52 : w5.cell? ⟨w.heap.size, 2, none⟩ = some (.int .i64 op) := H5.out.2.1.cell 2; have c53 : w5.cell? ⟨w.heap.size, 3, none⟩ = some (.int .i64 cl) := H5.out.2.1.cell 3; have e50 : w5.cell? ⟨E, 0, none⟩ = some (.bool false) := H5.out.2.2.2.1.cell 0; have e51 : w5.cell? ⟨E, 1, none⟩ = some (.int .i64 0) := H5.out.2.2.2.1.cell 1; clear hf5 hb5 hx5))
      have c54 : w5.cell? ⟨w.heap.size, 4, none⟩ = some (.slice A ls.length c) := H5.out.2.1.cell 4
      clear H3 c32 c33 e30 e31 HBt HT HBu zt zu ct2 ct3 et0 et1 cu2 cu3 eu0 eu1 c52 c53 e50 e51
      go_wp2_with fail
      go_loopw [41] (fun i wr => OutG bb w ⟨tm, at_, op, cl, ls⟩ A c E G i wr) (fun i _ => ls.length - (intOf i).toNat)
      case atStart => exact ⟨0, _, Nat.zero_le _, rfl, H5.out, ER.out⟩
      case round =>
        obtain ⟨wo, hwo⟩ : ∃ wo : World, wo = wr := ⟨_, rfl⟩
        subst hwo
        obtain ⟨k, rs, hk, rfl, hF, hr⟩ := hrel
        dsimp only at hk hr
        have H7 := Lib.hid hF
        have HR := Lib.hid hr
        clear hF hr H5 ER
        by_cases hlt : k < ls.length
        · obtain ⟨x, hx⟩ := get_some hlt
          obtain ⟨b, o, Ao, co, rfl, hSb, hbs, hi, hoc, hco, hEo, hc0, hc1⟩ := hA.level hx
          have Hd := Lib.hid (drop_cons hx)
          have hk0 : (0 : Int) ≤ (k : Int) := by omega
          obtain ⟨kd, os⟩ := x
          dsimp only at *
          have d0 : wo.cell? ⟨b, o + k * 2, none⟩ = some (.int .i64 kd) := (H7.out.1.cell (p := ⟨b, o + k * 2, none⟩) hbs).trans hc0
          have d1 : wo.cell? ⟨b, o + k * 2 + 1, none⟩ = some (.slice Ao os.length co) := (H7.out.1.cell (p := ⟨b, o + k * 2 + 1, none⟩) hbs).trans hc1
          have hol : os.length ≤ 9223372036854775807 := by omega
          have HEo := Lib.hid hEo
          have hI := Lib.hid (H7.out.guard (.cells #[.int .i64 kd, .slice Ao os.length co] 79))
          have ER2 : Hid (flatRulesB bb ⟨tm, at_, op, cl, ls⟩ = rs ++ ((os.drop 0).map (opRule kd) ++ ((ls.drop (k + 1)).map levRules).flatten)) := Lib.hid (by rw [HR.out, Hd.out]; rfl)
          clear hx hEo hc0 hc1 HR Hd
          go_wp2_with fail
          go_loopw [48] (fun i wr => InG bb w ⟨tm, at_, op, cl, ls⟩ (some ⟨b, o, none⟩) c E G kd os wo.heap.size Ao co ((ls.drop (k + 1)).map levRules).flatten i wr) (fun i _ => os.length - (intOf i).toNat)
          case atStart => exact ⟨0, _, Nat.zero_le _, rfl, hI.out, Blk'.new _ _ _, ER2.out⟩
          case round =>
            obtain ⟨wi, hwi⟩ : ∃ wi : World, wi = wr := ⟨_, rfl⟩
            subst hwi
            obtain ⟨m, rs1, hm, rfl, hF, hL, hr⟩ := hrel
            have H8 := Lib.hid hF
            have HL8 := Lib.hid hL
            have HR := Lib.hid hr
            have l0 : wi.cell? ⟨wo.heap.size, 0, none⟩ = some (.int .i64 kd) := hL.cell 0
            have e80 : wi.cell? ⟨E, 0, none⟩ = some (.bool false) := hF.2.2.2.1.cell 0
            have e81 : wi.cell? ⟨E, 1, none⟩ = some (.int .i64 0) := hF.2.2.2.1.cell 1
            clear hF hL hr hI ER2 d0 d1
            by_cases hlm : m < os.length
            · obtain ⟨x, hx⟩ := get_some hlm
              obtain ⟨b2, o2, hAo, hSb2, hbs2, hix, hcx⟩ := (HEo.out.belowB H8.out.1 hS).int hx
              subst hAo
              have Hd := Lib.hid (drop_cons hx)
              have hm0 : (0 : Int) ≤ (m : Int) := by omega
              have HIx := Lib.hid hix
              have ER3 : Hid (flatRulesB bb ⟨tm, at_, op, cl, ls⟩ = (rs1 ++ [opRule kd x]) ++ ((os.drop (m + 1)).map (opRule kd) ++ ((ls.drop (k + 1)).map levRules).flatten)) := Lib.hid (by rw [HR.out, Hd.out]; simp)
              have HLn : Hid (rs1.length ≤ 1000000) := Lib.hid (by have h := HN.out; rw [ER3.out] at h; simp only [List.length_append] at h; omega)
              clear hx hix HR
              have zE : E < wi.heap.size := H8.out.2.2.2.1.lt
              by_cases q : kd = 3
              · have hk3 : (kd == 3) = true := by simpa using q
                have ERq := Lib.hid (show opRule kd x = ⟨0, [⟨true, x⟩, ⟨false, 0⟩]⟩ by simp [opRule, q])
                clear q
                go_wp2_with fail
                go_region_held3 (fun w' => w'.cell? ⟨E, 0, none⟩ = some (.bool false) ∧ w'.cell? ⟨E, 1, none⟩ = some (.int .i64 0)) (go_keep)
                  (first
                      | (go_at_call 29; refine (refFlatT_any _ _).mono ?_; rintro e wt ⟨rfl, hbt⟩; have ht := H8.out.below (bundrew hbt); have et0 : wt.cell? ⟨E, 0, none⟩ = some (.bool false) := ht.2.2.2.1.cell 0; have et1 : wt.cell? ⟨E, 1, none⟩ = some (.int .i64 0) := ht.2.2.2.1.cell 1; have HBt := Lib.hid (bundrew hbt); have zt := hbt.size; clear hbt ht)
                      | (go_at_call 28; refine (refFlatAdd_any [⟨true, x⟩, ⟨false, 0⟩] _ _ (w.heap.size + 2) (w.heap.size + 4) G (fun b => b = E ∨ b = wo.heap.size) tm 1 0 _ wi _ H8.out.add H8.out.2.2.2.2.2.2 (by exact HBt.out.alloc zt _) (by exact els_of_blk [[.bool true, .int .i64 x], [.bool false, .int .i64 0]] (Blk'.new wt _ _) rfl rfl (rd_two ⟨rfl, HIx.out⟩ ⟨rfl, by decide, by decide⟩) ⟨zt, by simp⟩) (by simp) HLn.out).mono ?_; rintro e w9 ⟨rfl, hf9, hb9, hx9⟩; have H9 := Lib.hid (And.intro (H8.out.added (by exact HBt.out.alloc zt _) hf9 hb9 hx9) ((hx9 _ (.inr rfl)).trans ((HL8.out.below HBt.out HL8.out.lt).alloc _))); have e90 : w9.cell? ⟨E, 0, none⟩ = some (.bool false) := H9.out.1.2.2.2.1.cell 0; have e91 : w9.cell? ⟨E, 1, none⟩ = some (.int .i64 0) := H9.out.1.2.2.2.1.cell 1; clear hf9 hb9 hx9))
                go_wp2
                go_roundw
                case rel => exact ⟨m + 1, _, hlm, by go_num, H9.out.1, H9.out.2, by rw [← ERq.out]; exact ER3.out⟩
                case measure => simp [intOf]; omega
              · have hk3 : (kd == 3) = false := by simpa using q
                have ERq := Lib.hid (show opRule kd x = ⟨0, [⟨false, 0⟩, ⟨true, x⟩, ⟨false, 0⟩]⟩ by simp [opRule, q])
                clear q
                go_wp2_with fail
                go_region_held3 (fun w' => w'.cell? ⟨E, 0, none⟩ = some (.bool false) ∧ w'.cell? ⟨E, 1, none⟩ = some (.int .i64 0)) (go_keep)
                  (first
                      | (go_at_call 29; refine (refFlatT_any _ _).mono ?_; rintro e wt ⟨rfl, hbt⟩; have ht := H8.out.below (bundrew hbt); have et0 : wt.cell? ⟨E, 0, none⟩ = some (.bool false) := ht.2.2.2.1.cell 0; have et1 : wt.cell? ⟨E, 1, none⟩ = some (.int .i64 0) := ht.2.2.2.1.cell 1; have HBt := Lib.hid (bundrew hbt); have zt := hbt.size; clear hbt ht)
                      | (go_at_call 28; refine (refFlatAdd_any [⟨false, 0⟩, ⟨true, x⟩, ⟨false, 0⟩] _ _ (w.heap.size + 2) (w.heap.size + 4) G (fun b => b = E ∨ b = wo.heap.size) tm 1 0 _ wi _ H8.out.add H8.out.2.2.2.2.2.2 (by exact HBt.out.alloc zt _) (by exact els_of_blk [[.bool false, .int .i64 0], [.bool true, .int .i64 x], [.bool false, .int .i64 0]] (Blk'.new wt _ _) rfl rfl (rd_three0 ⟨rfl, by decide, by decide⟩ ⟨rfl, HIx.out⟩ ⟨rfl, by decide, by decide⟩) ⟨zt, by simp⟩) (by simp) HLn.out).mono ?_; rintro e w9 ⟨rfl, hf9, hb9, hx9⟩; have H9 := Lib.hid (And.intro (H8.out.added (by exact HBt.out.alloc zt _) hf9 hb9 hx9) ((hx9 _ (.inr rfl)).trans ((HL8.out.below HBt.out HL8.out.lt).alloc _))); have e90 : w9.cell? ⟨E, 0, none⟩ = some (.bool false) := H9.out.1.2.2.2.1.cell 0; have e91 : w9.cell? ⟨E, 1, none⟩ = some (.int .i64 0) := H9.out.1.2.2.2.1.cell 1; clear hf9 hb9 hx9))
                go_wp2
                go_roundw
                case rel => exact ⟨m + 1, _, hlm, by go_num, H9.out.1, H9.out.2, by rw [← ERq.out]; exact ER3.out⟩
                case measure => simp [intOf]; omega
            · have ER4 : Hid (flatRulesB bb ⟨tm, at_, op, cl, ls⟩ = rs1 ++ ((ls.drop (k + 1)).map levRules).flatten) := Lib.hid (by rw [HR.out, List.drop_of_length_le (by omega)]; rfl)
              go_wp2
              go_roundw
              case rel => exact ⟨k + 1, _, hlt, by go_num, H8.out.sub (fun b hb => .inl hb) rfl, ER4.out⟩
              case measure => simp [intOf]; omega
        · have ER5 : Hid (flatRulesB bb ⟨tm, at_, op, cl, ls⟩ = rs) := Lib.hid (by rw [HR.out, List.drop_of_length_le (by omega)]; simp)
          obtain ⟨v1, hG, h2, hX⟩ := H7.out.2.2.2.2.2.2
          obtain ⟨A1, n1, c1, rfl⟩ : ∃ A n c, v1 = Value.slice A n c := by obtain ⟨A, c, e, _⟩ := h2.form; exact ⟨_, _, _, e⟩
          have g0 : wo.cell? ⟨G, 0, none⟩ = some (.int .i64 tm) := hG.cell 0
          have g1 : wo.cell? ⟨G, 1, none⟩ = some (.int .i64 1) := hG.cell 1
          have g2 : wo.cell? ⟨G, 2, none⟩ = some (.int .i64 0) := hG.cell 2
          have g3 : wo.cell? ⟨G, 3, none⟩ = some (.slice A1 n1 c1) := hG.cell 3
          have r0 : wo.cell? ⟨w.heap.size + 1, 0, none⟩ = some (.int .i64 0) := H7.out.2.2.1.cell 0
          have r1 : wo.cell? ⟨w.heap.size + 1, 1, none⟩ = some (.int .i64 0) := H7.out.2.2.1.cell 1
          have r2 : wo.cell? ⟨w.heap.size + 1, 2, none⟩ = some (.int .i64 0) := H7.out.2.2.1.cell 2
          have r3 : wo.cell? ⟨w.heap.size + 1, 3, none⟩ = some (.slice none 0 0) := H7.out.2.2.1.cell 3
          have f0 := H7.out.2.2.1.frozen 0
          have f1 := H7.out.2.2.1.frozen 1
          have f2 := H7.out.2.2.1.frozen 2
          have f3 := H7.out.2.2.1.frozen 3
          have HW := Lib.hid ((((H7.out.2.2.1.set_ 0 (.int .i64 tm)).set_ 1 (.int .i64 1)).set_ 2 (.int .i64 0)).set_ 3 (.slice A1 n1 c1))
          have HT2 := Lib.hid ((((h2.setCell (p := ⟨w.heap.size + 1, 0, none⟩) (fun e => by have := (h2.block _ e).1; dsimp only at this; omega) (by simp) (.int .i64 tm)).setCell (p := ⟨w.heap.size + 1, 1, none⟩) (fun e => by have := (h2.block _ e).1; dsimp only at this; omega) (by simp) (.int .i64 1)).setCell (p := ⟨w.heap.size + 1, 2, none⟩) (fun e => by have := (h2.block _ e).1; dsimp only at this; omega) (by simp) (.int .i64 0)).setCell (p := ⟨w.heap.size + 1, 3, none⟩) (fun e => by have := (h2.block _ e).1; dsimp only at this; omega) (by simp) (.slice A1 n1 c1))
          have HBl := Lib.hid ((((H7.out.1.setCell (p := ⟨w.heap.size + 1, 0, none⟩) (by simp) (.int .i64 tm)).setCell (p := ⟨w.heap.size + 1, 1, none⟩) (by simp) (.int .i64 1)).setCell (p := ⟨w.heap.size + 1, 2, none⟩) (by simp) (.int .i64 0)).setCell (p := ⟨w.heap.size + 1, 3, none⟩) (by simp) (.slice A1 n1 c1))
          have q0 := HW.out.cell 0
          have q1 := HW.out.cell 1
          have q2 := HW.out.cell 2
          have q3 := HW.out.cell 3
          simp at q0 q1 q2 q3
          clear hG h2 hX
          go_wp2
          exact bodyPost_ret (v := .agg #[.int .i64 tm, .int .i64 1, .int .i64 0, .slice A1 n1 c1]) (by simp [results, Try.results10, go_sem, q0, q1, q2, q3]) rfl ⟨_, rfl, by rw [ER5.out]; exact HT2.out.base (by omega), HBl.out⟩
end Go.Proofs.Ytpcjfgikicpioaa
