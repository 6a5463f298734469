/- Contract: prec.layered. -/
import Derived.Test.YtjdojogjogenkaaDoorQw3
import Derived.Test.YtjdojogjogenkaaDoorQPrecFlat
namespace Go.Proofs.YtjdojogjogenkaaDoor
open Go.RowKit
set_option linter.unusedVariables false

theorem FlatSt.guardN {X S : Nat → Prop} {B G L : Nat} {t n s : Int} {rs : List Rule} {ls : List Int} {w w' : World} (h : FlatSt X S B G L t n s rs ls w) (hb : Below w.heap.size w w') : FlatSt (fun b => w.heap.size ≤ b ∧ b < w'.heap.size) S B G L t n s rs ls w' := by
  obtain ⟨v1, v2, h1, h2, h3, h4⟩ := h.below hb
  obtain ⟨u1, u2, q1, q2, q3, q4⟩ := h
  have e1 : u1 = v1 := by
    have e := q1.below hb q1.lt
    unfold Blk' at e h1
    rw [e] at h1
    simpa using h1
  have e2 : u2 = v2 := by
    have e := q2.below hb q2.lt
    unfold Blk' at e h2
    rw [e] at h2
    simpa using h2
  subst e1; subst e2
  refine ⟨u1, u2, h1, h2, h3, fun b hb => ?_⟩
  exact ⟨hb.2, fun e => by have := q1.lt; omega, fun e => by have := q2.lt; omega, fun e => by have := (q3.1.block _ e).2; omega, fun e => by have := (q3.2.1.block _ e).2; omega⟩

/-- The state of prec.layered. -/
def FL (X : Nat → Prop) (w : World) (t : Table) (A : Option Addr) (c : Nat) (rs : List Rule) (ls : List Int) (wr : World) : Prop :=
  Below w.heap.size w wr ∧ Blk' wr w.heap.size 65 #[.int .i64 t.terms, .int .i64 t.atom, .int .i64 t.opn, .int .i64 t.cls, .slice A t.levels.length c] ∧
    Blk' wr (w.heap.size + 1) 24 #[.int .i64 0, .int .i64 0, .int .i64 0, .slice none 0 0] ∧
    FlatSt X (fun _ => False) (w.heap.size + 4) (w.heap.size + 2) (w.heap.size + 3) t.terms ((t.levels.length : Int) + 1) 0 rs ls wr
theorem FL.lt {X : Nat → Prop} {w wr : World} {t : Table} {A : Option Addr} {c : Nat} {rs : List Rule} {ls : List Int} (h : FL X w t A c rs ls wr) : w.heap.size + 4 ≤ wr.heap.size := by
  obtain ⟨_, _, _, v1, v2, h1, h2, h3, _⟩ := h
  exact h2.lt
theorem FL.below {X : Nat → Prop} {w wr w' : World} {t : Table} {A : Option Addr} {c : Nat} {rs : List Rule} {ls : List Int} (h : FL X w t A c rs ls wr) (hb : Below wr.heap.size wr w') : FL X w t A c rs ls w' := by
  obtain ⟨h1, h2, h3, h6⟩ := h
  exact ⟨bthen h1 hb h1.size, h2.below hb h2.lt, h3.below hb h3.lt, h6.below hb⟩
theorem FL.added {X : Nat → Prop} {w wr wm w' : World} {t : Table} {A : Option Addr} {c : Nat} {rs rs' : List Rule} {ls ls' : List Int} (h : FL X w t A c rs ls wr) (hb : Below wr.heap.size wr wm) (hf : FlatSt X (fun _ => False) (w.heap.size + 4) (w.heap.size + 2) (w.heap.size + 3) t.terms ((t.levels.length : Int) + 1) 0 rs' ls' w') (hb' : Below (w.heap.size + 2) wm w') : FL X w t A c rs' ls' w' := by
  have hl := h.lt
  obtain ⟨h1, h2, h3, h6⟩ := h
  have hb2 := (hb.mono (show w.heap.size + 2 ≤ wr.heap.size by omega)).trans hb'
  exact ⟨h1.trans (hb2.mono (by omega)), h2.below hb2 (by omega), h3.below hb2 (by omega), hf⟩
theorem FL.add {X : Nat → Prop} {w wr : World} {t : Table} {A : Option Addr} {c : Nat} {rs : List Rule} {ls : List Int} (h : FL X w t A c rs ls wr) : w.heap.size + 2 ≤ w.heap.size + 2 ∧ w.heap.size + 2 < w.heap.size + 4 ∧ w.heap.size + 2 ≤ w.heap.size + 3 ∧ w.heap.size + 3 < w.heap.size + 4 ∧ w.heap.size + 2 ≠ w.heap.size + 3 ∧ w.heap.size + 4 ≤ wr.heap.size ∧ ¬ False ∧ ¬ False := by
  have := h.lt
  simp; omega
theorem FL.guardN {X : Nat → Prop} {w wr w' : World} {t : Table} {A : Option Addr} {c : Nat} {rs : List Rule} {ls : List Int} (h : FL X w t A c rs ls wr) (hb : Below wr.heap.size wr w') : FL (fun b => wr.heap.size ≤ b ∧ b < w'.heap.size) w t A c rs ls w' := by
  have h' := h.below hb
  exact ⟨h'.1, h'.2.1, h'.2.2.1, h.2.2.2.guardN hb⟩
theorem FL.free {X : Nat → Prop} {w wr : World} {t : Table} {A : Option Addr} {c : Nat} {rs : List Rule} {ls : List Int} (h : FL X w t A c rs ls wr) : FL (fun _ => False) w t A c rs ls wr := ⟨h.1, h.2.1, h.2.2.1, h.2.2.2.free⟩
theorem FL.sub {X X' : Nat → Prop} {w wr : World} {t : Table} {A : Option Addr} {c : Nat} {rs : List Rule} {ls : List Int} (h : FL X w t A c rs ls wr) (hx : ∀ b, X' b → X b) : FL X' w t A c rs ls wr := by
  obtain ⟨h1, h2, h3, v1, v2, q1, q2, q3, q4⟩ := h
  exact ⟨h1, h2, h3, v1, v2, q1, q2, q3, fun b hb => q4 b (hx b hb)⟩

def OutL (b : Bool) (w : World) (t : Table) (A : Option Addr) (c : Nat) (r8 i : Value) (wr : World) : Prop :=
  ∃ (k : Nat) (r : Int) (rs : List Rule) (lv : List Int), k ≤ t.levels.length ∧ i = .int .i64 k ∧ r8 = .int .i64 r ∧ 1 ≤ r ∧ r ≤ lv.length + 2 ∧ FL (fun _ => False) w t A c rs lv wr ∧
    layRules b t = rs ++ (layFrom k (t.levels.drop k) ++ layTailR b t) ∧ layTo b t = lv ++ (toFrom r (t.levels.drop k) ++ layTailL b)
def InL (b : Bool) (w : World) (t : Table) (A : Option Addr) (c : Nat) (k : Nat) (kd : Int) (os : List Int) (L0 O1 : Nat) (Ao : Option Addr) (co : Nat) (r1 : Int) (R1 : List Rule) (L1 : List Int) (r8 i : Value) (wr : World) : Prop :=
  ∃ (m : Nat) (r : Int) (rs : List Rule) (lv : List Int), m ≤ os.length ∧ i = .int .i64 m ∧ r8 = .int .i64 r ∧ 1 ≤ r ∧ r ≤ lv.length + 2 ∧ r + ((os.length - m : Nat) : Int) = r1 ∧ FL (fun b => L0 ≤ b ∧ b < O1 + 2) w t A c rs lv wr ∧
    Blk' wr L0 120 #[.int .i64 kd, .slice Ao os.length co] ∧ Blk' wr O1 40 #[.bool false, .int .i64 k] ∧ Blk' wr (O1 + 1) 40 #[.bool false, .int .i64 ((k : Int) + 1)] ∧ L0 < O1 ∧
    layRules b t = rs ++ ((os.drop m).map (layRule kd k) ++ R1) ∧ layTo b t = lv ++ (nums r (os.drop m) ++ L1)

set_option maxRecDepth 100000 in
set_option maxHeartbeats 4000000 in
theorem lay_any (t : Table) (A : Option Addr) (c : Nat) (S : Nat → Prop) (w : World) (h64 : I64 t.terms ∧ I64 t.atom ∧ I64 t.opn ∧ I64 t.cls) (hlc : t.levels.length ≤ c) (hc : c ≤ 9223372036854775807) (hln : t.levels.length ≤ 1000000) (hA : Els w S t.levels A) (hS : ∀ b, S b → b < w.heap.size)
    (hN : (layRules (brk t) t).length ≤ 1000000 ∧ (layTo (brk t) t).length ≤ 1000000) :
    Calls Tryd.prog 68 #[.agg #[.int .i64 t.terms, .int .i64 t.atom, .int .i64 t.opn, .int .i64 t.cls, .slice A t.levels.length c]] w
      fun e w' => ∃ v1 v2, e = .returned (.tuple #[.agg #[.int .i64 t.terms, .int .i64 ((t.levels.length : Int) + 1), .int .i64 0, v1], v2]) ∧ Two w' (fun _ => False) w.heap.size 60 3 v1 v2 (layRules (brk t) t) (layTo (brk t) t) ∧ Below w.heap.size w w' := by
  obtain ⟨tm, at_, op, cl, ls⟩ := t
  dsimp only at *
  have HN := Lib.hid hN
  have H64 := Lib.hid h64
  have hn0 : (0 : Int) ≤ (ls.length : Int) := by omega
  have hnm : (ls.length : Int) ≤ 9223372036854775806 := by omega
  clear hln
  have HIn : Hid (I64 (ls.length : Int)) := Lib.hid ⟨by omega, by omega⟩
  clear hN h64
  go_enter Tryd.func68, Tryd.ntmps68
  go_wp2_with fail
  refine (brackets_any _ tm at_ op cl ls _ ⟨_, _, _, rfl⟩).mono ?_
  rintro e w4 ⟨rfl, hb4⟩
  have ht : ∀ (o1 o2 o3 : Obj), Blk' (((w.alloc (.cells #[.int .i64 tm, .int .i64 at_, .int .i64 op, .int .i64 cl, .slice A ls.length c] 65)).alloc o1).alloc o2 |>.alloc o3) w.heap.size 65 #[.int .i64 tm, .int .i64 at_, .int .i64 op, .int .i64 cl, .slice A ls.length c] := fun o1 o2 o3 => (((Blk'.new w _ _).alloc o1).alloc o2).alloc o3
  have hr : ∀ (o0 o2 o3 : Obj), Blk' (((w.alloc o0).alloc (.cells #[.int .i64 0, .int .i64 0, .int .i64 0, .slice none 0 0] 24)).alloc o2 |>.alloc o3) (w.heap.size + 1) 24 #[.int .i64 0, .int .i64 0, .int .i64 0, .slice none 0 0] := fun o0 o2 o3 => ((Blk'.new' _ _ _ (by simp)).alloc o2).alloc o3
  have hg : ∀ (o0 o1 o3 : Obj), Blk' (((w.alloc o0).alloc o1).alloc (.cells #[.int .i64 tm, .int .i64 ((ls.length : Int) + 1), .int .i64 0, .slice none 0 0] 24) |>.alloc o3) (w.heap.size + 2) 24 #[.int .i64 tm, .int .i64 ((ls.length : Int) + 1), .int .i64 0, .slice none 0 0] := fun o0 o1 o3 => (Blk'.new' _ _ _ (by simp)).alloc o3
  have hl : ∀ (o0 o1 o2 : Obj), Blk' (((w.alloc o0).alloc o1).alloc o2 |>.alloc (.cells #[.slice none 0 0] 33)) (w.heap.size + 3) 33 #[.slice none 0 0] := fun o0 o1 o2 => Blk'.new' _ _ _ (by simp)
  have hb0 : ∀ (o0 o1 o2 o3 : Obj), Below w.heap.size w (((w.alloc o0).alloc o1).alloc o2 |>.alloc o3) := fun o0 o1 o2 o3 => ((((Below.refl _ _).alloc (Nat.le_refl _) _).alloc (by simp) _).alloc (by simp <;> omega) _).alloc (by simp <;> omega) _
  have hF4 : FL (fun _ => False) w ⟨tm, at_, op, cl, ls⟩ A c [] [] w4 :=
    ⟨bthen (hb0 _ _ _ _) hb4 (by simp <;> omega), (ht _ _ _).below hb4 (by simp <;> omega), (hr _ _ _).below hb4 (by simp <;> omega), _, _, (hg _ _ _).below hb4 (by simp), (hl _ _ _).below hb4 (by simp), Two.nil _ _ _ _ _, fun b hb => hb.elim⟩
  have H4 := Lib.hid hF4
  have k4 : w4.cell? ⟨w.heap.size, 4, none⟩ = some (.slice A ls.length c) := hF4.2.1.cell 4
  have z4 : w.heap.size < w4.heap.size := hF4.2.1.lt
  clear ht hr hg hl hb0 hF4 hb4
  obtain ⟨bb, hbb⟩ : ∃ bb : Bool, bb = brk ⟨tm, at_, op, cl, ls⟩ := ⟨_, rfl⟩
  rw [← hbb] at HN
  have HBB := Lib.hid hbb
  clear hbb
  cases hbk : brk ⟨tm, at_, op, cl, ls⟩
  all_goals
    have HBv := Lib.hid (HBB.out.trans hbk)
    clear hbk
    go_wp2_with fail
    go_loopw [8, 31] (fun r8 i wr => OutL bb w ⟨tm, at_, op, cl, ls⟩ A c r8 i wr) (fun _ i _ => ls.length - (intOf i).toNat)
    case atStart => first | exact ⟨0, 1, [], [], Nat.zero_le _, rfl, rfl, by omega, by simp, H4.out, by simp [layRules], by rw [HBv.out]; rfl⟩ | exact ⟨0, 2, [], [], Nat.zero_le _, rfl, rfl, by omega, by simp, H4.out, by simp [layRules], by rw [HBv.out]; rfl⟩
    case round =>
      obtain ⟨wo, hwo⟩ : ∃ wo : World, wo = wr := ⟨_, rfl⟩
      subst hwo
      obtain ⟨k, r, rs, lv, hk, rfl, rfl, hr1, hr2, hF, hr, hl⟩ := hrel
      dsimp only at hk hr hl
      have H7 := Lib.hid hF
      have HR := Lib.hid hr
      have HL := Lib.hid hl
      have HLn : Hid (rs.length ≤ 1000000 ∧ lv.length ≤ 1000000) := Lib.hid (by have h := HN.out; rw [hr, hl] at h; simp only [List.length_append] at h; omega)
      have hrb : r ≤ 1000002 := by have := HLn.out.2; omega
      clear hF hr hl H4 k4 z4
      by_cases hlt : k < ls.length
      · obtain ⟨x, hx⟩ := get_some hlt
        obtain ⟨b, o, Ao, co, rfl, hSb, hbs, hi, hoc, hco, hEo, hc0, hc1⟩ := hA.level hx
        have Hd := Lib.hid (drop_cons hx)
        have hk0 : (0 : Int) ≤ (k : Int) := by omega
        have hkm : (k : Int) ≤ 9223372036854775805 := by omega
        obtain ⟨kd, os⟩ := x
        dsimp only at *
        have d0 : wo.cell? ⟨b, o + k * 2, none⟩ = some (.int .i64 kd) := (H7.out.1.cell (p := ⟨b, o + k * 2, none⟩) hbs).trans hc0
        have d1 : wo.cell? ⟨b, o + k * 2 + 1, none⟩ = some (.slice Ao os.length co) := (H7.out.1.cell (p := ⟨b, o + k * 2 + 1, none⟩) hbs).trans hc1
        have hol : os.length ≤ 9223372036854775807 := by omega
        have HEo := Lib.hid hEo
        have HIk : Hid (I64 (k : Int)) := Lib.hid ⟨by omega, by omega⟩
        have HIk1 : Hid (I64 ((k : Int) + 1)) := Lib.hid ⟨by omega, by omega⟩
        have ER2 := Lib.hid (show layRules bb ⟨tm, at_, op, cl, ls⟩ = rs ++ ((os.drop 0).map (layRule kd k) ++ (⟨(k : Int), [⟨false, (k : Int) + 1⟩]⟩ :: (layFrom (k + 1) (ls.drop (k + 1)) ++ layTailR bb ⟨tm, at_, op, cl, ls⟩))) by rw [HR.out, Hd.out]; simp [layFrom])
        have EL2 := Lib.hid (show layTo bb ⟨tm, at_, op, cl, ls⟩ = lv ++ (nums r (os.drop 0) ++ (-1 :: (toFrom (r + (os.length : Int)) (ls.drop (k + 1)) ++ layTailL bb))) by rw [HL.out, Hd.out]; simp [toFrom])
        clear hx hEo hc0 hc1 HR HL Hd
        go_wp2_with fail
        refine (n_any _ _).mono ?_
        rintro e wm ⟨rfl, hbm⟩
        have zm : wo.heap.size < wm.heap.size := by have := hbm.size; simp at this; omega
        have HBm := Lib.hid (bthen ((Below.refl wo.heap.size wo).alloc (Nat.le_refl _) (.cells #[.int .i64 kd, .slice Ao os.length co] 120)) hbm (by simp))
        have HLm := Lib.hid ((Blk'.new wo 120 #[.int .i64 kd, .slice Ao os.length co]).below hbm (by simp))
        clear hbm
        go_wp2_with fail
        refine (n_any _ _).mono ?_
        rintro e wn ⟨rfl, hbn⟩
        have zn : wo.heap.size < wn.heap.size := by have := hbn.size; omega
        have HBn := Lib.hid (((bthen HBm.out hbn (by omega)).alloc (by omega) (.cells #[.bool false, .int .i64 k] 40)).alloc (by simp; omega) (.cells #[.bool false, .int .i64 ((k : Int) + 1)] 40))
        have HLv := Lib.hid (((HLm.out.below hbn zm).alloc (.cells #[.bool false, .int .i64 k] 40)).alloc (.cells #[.bool false, .int .i64 ((k : Int) + 1)] 40))
        have HS1 := Lib.hid ((Blk'.new wn 40 #[.bool false, .int .i64 k]).alloc (.cells #[.bool false, .int .i64 ((k : Int) + 1)] 40))
        have HS2 := Lib.hid (Blk'.new' (g := wn.heap.size + 1) (wn.alloc (.cells #[.bool false, .int .i64 k] 40)) 40 #[.bool false, .int .i64 ((k : Int) + 1)] (by simp))
        have hv1 : wn.cell? ⟨wo.heap.size, 1, none⟩ = some (.slice Ao os.length co) := (HLm.out.below hbn zm).cell 1
        have zO : wo.heap.size < wn.heap.size := zn
        have HFn := Lib.hid ((H7.out.guardN HBn.out).sub (X' := fun b => wo.heap.size ≤ b ∧ b < wn.heap.size + 2) (fun b hb => ⟨hb.1, by have := hb.2; simp; omega⟩))
        clear hbn HBm HLm d0 d1
        go_wp2_with fail
        go_loopw [8, 44] (fun r8 i wr => InL bb w ⟨tm, at_, op, cl, ls⟩ (some ⟨b, o, none⟩) c k kd os wo.heap.size wn.heap.size Ao co (r + (os.length : Int)) (⟨(k : Int), [⟨false, (k : Int) + 1⟩]⟩ :: (layFrom (k + 1) (ls.drop (k + 1)) ++ layTailR bb ⟨tm, at_, op, cl, ls⟩)) (-1 :: (toFrom (r + (os.length : Int)) (ls.drop (k + 1)) ++ layTailL bb)) r8 i wr) (fun _ i _ => os.length - (intOf i).toNat)
        case atStart => exact ⟨0, r, rs, lv, Nat.zero_le _, rfl, rfl, hr1, hr2, by simp, HFn.out, HLv.out, HS1.out, HS2.out, zO, ER2.out, EL2.out⟩
        case round =>
          obtain ⟨wi, hwi⟩ : ∃ wi : World, wi = wr := ⟨_, rfl⟩
          subst hwi
          obtain ⟨m, r2, rs1, lv1, hm, rfl, rfl, hr3, hr4, hr5, hF, hL, hP1, hP2, hLO, hr, hl⟩ := hrel
          have H8 := Lib.hid hF
          have HL8 := Lib.hid hL
          have HP8 := Lib.hid (And.intro hP1 hP2)
          have HR := Lib.hid hr
          have HL := Lib.hid hl
          have HR5 := Lib.hid hr5
          have HLn2 : Hid (rs1.length ≤ 1000000 ∧ lv1.length ≤ 1000000) := Lib.hid (by have h := HN.out; rw [hr, hl] at h; simp only [List.length_append] at h; omega)
          have hrb2 : r2 ≤ 1000002 := by have := HLn2.out.2; omega
          have l0 : wi.cell? ⟨wo.heap.size, 0, none⟩ = some (.int .i64 kd) := hL.cell 0
          have o80 : wi.cell? ⟨wn.heap.size, 0, none⟩ = some (.bool false) := hP1.cell 0
          have o81 : wi.cell? ⟨wn.heap.size, 1, none⟩ = some (.int .i64 k) := hP1.cell 1
          have p80 : wi.cell? ⟨wn.heap.size + 1, 0, none⟩ = some (.bool false) := hP2.cell 0
          have p81 : wi.cell? ⟨wn.heap.size + 1, 1, none⟩ = some (.int .i64 ((k : Int) + 1)) := hP2.cell 1
          have zP : wn.heap.size + 1 < wi.heap.size := hP2.lt
          have zP0 : wn.heap.size < wi.heap.size := hP1.lt
          have hnw : ¬ IntKind.i64.wrap (r2 + 1) ≠ r2 + 1 := fun h => h (IntWalk.i64_in _ (by omega))
          clear hF hL hP1 hP2 hr hl HFn HLv HS1 HS2 ER2 EL2 hr5 hnw HIk1 HLn
          by_cases hlm : m < os.length
          · obtain ⟨x, hx⟩ := get_some hlm
            obtain ⟨b2, o2, hAo, hSb2, hbs2, hix, hcx⟩ := (HEo.out.belowB H8.out.1 hS).int hx
            subst hAo
            have Hd := Lib.hid (drop_cons hx)
            have hm0 : (0 : Int) ≤ (m : Int) := by omega
            have HIx := Lib.hid hix
            have HIr : Hid (I64 r2) := Lib.hid ⟨by omega, by omega⟩
            have HIk2 : Hid (I64 ((k : Int) + 1)) := Lib.hid ⟨by omega, by omega⟩
            have ER3 := Lib.hid (show layRules bb ⟨tm, at_, op, cl, ls⟩ = (rs1 ++ [layRule kd k x]) ++ ((os.drop (m + 1)).map (layRule kd k) ++ (⟨(k : Int), [⟨false, (k : Int) + 1⟩]⟩ :: (layFrom (k + 1) (ls.drop (k + 1)) ++ layTailR bb ⟨tm, at_, op, cl, ls⟩))) by rw [HR.out, Hd.out]; simp)
            have EL3 := Lib.hid (show layTo bb ⟨tm, at_, op, cl, ls⟩ = (lv1 ++ [r2]) ++ (nums (r2 + 1) (os.drop (m + 1)) ++ (-1 :: (toFrom (r + (os.length : Int)) (ls.drop (k + 1)) ++ layTailL bb))) by rw [HL.out, Hd.out]; simp [nums])
            have HR6 : Hid ((r2 + 1) + ((os.length - (m + 1) : Nat) : Int) = r + (os.length : Int)) := Lib.hid (by have := HR5.out; omega)
            clear hx hix HR HL Hd HR5
            by_cases q0 : kd = 0
            · have h0 : (kd == 0) = true := by simpa using q0
              have ERq := Lib.hid (show layRule kd k x = ⟨(k : Int), [⟨false, (k : Int) + 1⟩, ⟨true, x⟩, ⟨false, (k : Int) + 1⟩]⟩ by simp [layRule, q0])
              clear q0
              go_wp2_with fail
              go_region_held3 (fun w' => w'.cell? ⟨wn.heap.size, 0, none⟩ = some (.bool false) ∧ w'.cell? ⟨wn.heap.size, 1, none⟩ = some (.int .i64 k) ∧ w'.cell? ⟨wn.heap.size + 1, 0, none⟩ = some (.bool false) ∧ w'.cell? ⟨wn.heap.size + 1, 1, none⟩ = some (.int .i64 ((k : Int) + 1))) (go_keep)
                (first
                | (go_at_call 112; refine (t_any _ _).mono ?_; rintro e wt ⟨rfl, hbt⟩; have ht1 := HP8.out.1.below (bundrew hbt) zP0; have ht2 := HP8.out.2.below (bundrew hbt) zP; have ot0 : wt.cell? ⟨wn.heap.size, 0, none⟩ = some (.bool false) := ht1.cell 0; have ot1 : wt.cell? ⟨wn.heap.size, 1, none⟩ = some (.int .i64 k) := ht1.cell 1; have pt0 : wt.cell? ⟨wn.heap.size + 1, 0, none⟩ = some (.bool false) := ht2.cell 0; have pt1 : wt.cell? ⟨wn.heap.size + 1, 1, none⟩ = some (.int .i64 ((k : Int) + 1)) := ht2.cell 1; have HBt := Lib.hid (bundrew hbt); have zt := hbt.size; clear hbt ht1 ht2)
                | (go_at_call 111; refine (layAdd_any _ _ HIk.out [⟨false, (k : Int) + 1⟩, ⟨true, x⟩, ⟨false, (k : Int) + 1⟩] _ _ (w.heap.size + 2) (w.heap.size + 4) (w.heap.size + 2) (w.heap.size + 3) (fun b => wo.heap.size ≤ b ∧ b < wn.heap.size + 2) (fun _ => False) tm ((ls.length : Int) + 1) 0 _ _ wi _ H8.out.add H8.out.2.2.2 (by exact HBt.out.alloc zt _) (by exact els_of_blk [[.bool false, .int .i64 ((k : Int) + 1)], [.bool true, .int .i64 x], [.bool false, .int .i64 ((k : Int) + 1)]] (Blk'.new wt _ _) rfl rfl (rd_three0 ⟨rfl, HIk2.out⟩ ⟨rfl, HIx.out⟩ ⟨rfl, HIk2.out⟩) ⟨zt, by simp⟩) (by simp) HIr.out HLn2.out).mono ?_; rintro e w9 ⟨rfl, hf9, hb9, hx9⟩; have H9 := Lib.hid (And.intro (H8.out.added (by exact HBt.out.alloc zt _) hf9 hb9) (And.intro ((hx9 wo.heap.size ⟨Nat.le_refl _, by omega⟩).trans ((HL8.out.below HBt.out HL8.out.lt).alloc _)) (And.intro ((hx9 wn.heap.size ⟨by omega, by omega⟩).trans ((HP8.out.1.below HBt.out zP0).alloc _)) ((hx9 (wn.heap.size + 1) ⟨by omega, by omega⟩).trans ((HP8.out.2.below HBt.out zP).alloc _))))); have o90 : w9.cell? ⟨wn.heap.size, 0, none⟩ = some (.bool false) := (show Blk' _ _ _ _ from H9.out.2.2.1).cell 0; have o91 : w9.cell? ⟨wn.heap.size, 1, none⟩ = some (.int .i64 k) := (show Blk' _ _ _ _ from H9.out.2.2.1).cell 1; have p90 : w9.cell? ⟨wn.heap.size + 1, 0, none⟩ = some (.bool false) := (show Blk' _ _ _ _ from H9.out.2.2.2).cell 0; have p91 : w9.cell? ⟨wn.heap.size + 1, 1, none⟩ = some (.int .i64 ((k : Int) + 1)) := (show Blk' _ _ _ _ from H9.out.2.2.2).cell 1; clear hf9 hb9 hx9))
              go_wp2
              go_roundw
              case rel => exact ⟨m + 1, r2 + 1, _, _, hlm, by go_num, rfl, by omega, by simp; omega, HR6.out, H9.out.1, H9.out.2.1, H9.out.2.2.1, H9.out.2.2.2, hLO, by rw [← ERq.out]; exact ER3.out, EL3.out⟩
              case measure => simp [intOf]; omega
            have h0 : (kd == 0) = false := by simpa using q0
            by_cases q1 : kd = 1
            · have h1 : (kd == 1) = true := by simpa using q1
              have ERq := Lib.hid (show layRule kd k x = ⟨(k : Int), [⟨false, (k : Int)⟩, ⟨true, x⟩, ⟨false, (k : Int) + 1⟩]⟩ by simp [layRule, q0, q1])
              clear q0 q1
              go_wp2_with fail
              go_region_held3 (fun w' => w'.cell? ⟨wn.heap.size, 0, none⟩ = some (.bool false) ∧ w'.cell? ⟨wn.heap.size, 1, none⟩ = some (.int .i64 k) ∧ w'.cell? ⟨wn.heap.size + 1, 0, none⟩ = some (.bool false) ∧ w'.cell? ⟨wn.heap.size + 1, 1, none⟩ = some (.int .i64 ((k : Int) + 1))) (go_keep)
                (first
                | (go_at_call 112; refine (t_any _ _).mono ?_; rintro e wt ⟨rfl, hbt⟩; have ht1 := HP8.out.1.below (bundrew hbt) zP0; have ht2 := HP8.out.2.below (bundrew hbt) zP; have ot0 : wt.cell? ⟨wn.heap.size, 0, none⟩ = some (.bool false) := ht1.cell 0; have ot1 : wt.cell? ⟨wn.heap.size, 1, none⟩ = some (.int .i64 k) := ht1.cell 1; have pt0 : wt.cell? ⟨wn.heap.size + 1, 0, none⟩ = some (.bool false) := ht2.cell 0; have pt1 : wt.cell? ⟨wn.heap.size + 1, 1, none⟩ = some (.int .i64 ((k : Int) + 1)) := ht2.cell 1; have HBt := Lib.hid (bundrew hbt); have zt := hbt.size; clear hbt ht1 ht2)
                | (go_at_call 111; refine (layAdd_any _ _ HIk.out [⟨false, (k : Int)⟩, ⟨true, x⟩, ⟨false, (k : Int) + 1⟩] _ _ (w.heap.size + 2) (w.heap.size + 4) (w.heap.size + 2) (w.heap.size + 3) (fun b => wo.heap.size ≤ b ∧ b < wn.heap.size + 2) (fun _ => False) tm ((ls.length : Int) + 1) 0 _ _ wi _ H8.out.add H8.out.2.2.2 (by exact HBt.out.alloc zt _) (by exact els_of_blk [[.bool false, .int .i64 (k : Int)], [.bool true, .int .i64 x], [.bool false, .int .i64 ((k : Int) + 1)]] (Blk'.new wt _ _) rfl rfl (rd_three0 ⟨rfl, HIk.out⟩ ⟨rfl, HIx.out⟩ ⟨rfl, HIk2.out⟩) ⟨zt, by simp⟩) (by simp) HIr.out HLn2.out).mono ?_; rintro e w9 ⟨rfl, hf9, hb9, hx9⟩; have H9 := Lib.hid (And.intro (H8.out.added (by exact HBt.out.alloc zt _) hf9 hb9) (And.intro ((hx9 wo.heap.size ⟨Nat.le_refl _, by omega⟩).trans ((HL8.out.below HBt.out HL8.out.lt).alloc _)) (And.intro ((hx9 wn.heap.size ⟨by omega, by omega⟩).trans ((HP8.out.1.below HBt.out zP0).alloc _)) ((hx9 (wn.heap.size + 1) ⟨by omega, by omega⟩).trans ((HP8.out.2.below HBt.out zP).alloc _))))); have o90 : w9.cell? ⟨wn.heap.size, 0, none⟩ = some (.bool false) := (show Blk' _ _ _ _ from H9.out.2.2.1).cell 0; have o91 : w9.cell? ⟨wn.heap.size, 1, none⟩ = some (.int .i64 k) := (show Blk' _ _ _ _ from H9.out.2.2.1).cell 1; have p90 : w9.cell? ⟨wn.heap.size + 1, 0, none⟩ = some (.bool false) := (show Blk' _ _ _ _ from H9.out.2.2.2).cell 0; have p91 : w9.cell? ⟨wn.heap.size + 1, 1, none⟩ = some (.int .i64 ((k : Int) + 1)) := (show Blk' _ _ _ _ from H9.out.2.2.2).cell 1; clear hf9 hb9 hx9))
              go_wp2
              go_roundw
              case rel => exact ⟨m + 1, r2 + 1, _, _, hlm, by go_num, rfl, by omega, by simp; omega, HR6.out, H9.out.1, H9.out.2.1, H9.out.2.2.1, H9.out.2.2.2, hLO, by rw [← ERq.out]; exact ER3.out, EL3.out⟩
              case measure => simp [intOf]; omega
            have h1 : (kd == 1) = false := by simpa using q1
            by_cases q2 : kd = 2
            · have h2 : (kd == 2) = true := by simpa using q2
              have ERq := Lib.hid (show layRule kd k x = ⟨(k : Int), [⟨false, (k : Int) + 1⟩, ⟨true, x⟩, ⟨false, (k : Int)⟩]⟩ by simp [layRule, q0, q1, q2])
              clear q0 q1 q2
              go_wp2_with fail
              go_region_held3 (fun w' => w'.cell? ⟨wn.heap.size, 0, none⟩ = some (.bool false) ∧ w'.cell? ⟨wn.heap.size, 1, none⟩ = some (.int .i64 k) ∧ w'.cell? ⟨wn.heap.size + 1, 0, none⟩ = some (.bool false) ∧ w'.cell? ⟨wn.heap.size + 1, 1, none⟩ = some (.int .i64 ((k : Int) + 1))) (go_keep)
                (first
                | (go_at_call 112; refine (t_any _ _).mono ?_; rintro e wt ⟨rfl, hbt⟩; have ht1 := HP8.out.1.below (bundrew hbt) zP0; have ht2 := HP8.out.2.below (bundrew hbt) zP; have ot0 : wt.cell? ⟨wn.heap.size, 0, none⟩ = some (.bool false) := ht1.cell 0; have ot1 : wt.cell? ⟨wn.heap.size, 1, none⟩ = some (.int .i64 k) := ht1.cell 1; have pt0 : wt.cell? ⟨wn.heap.size + 1, 0, none⟩ = some (.bool false) := ht2.cell 0; have pt1 : wt.cell? ⟨wn.heap.size + 1, 1, none⟩ = some (.int .i64 ((k : Int) + 1)) := ht2.cell 1; have HBt := Lib.hid (bundrew hbt); have zt := hbt.size; clear hbt ht1 ht2)
                | (go_at_call 111; refine (layAdd_any _ _ HIk.out [⟨false, (k : Int) + 1⟩, ⟨true, x⟩, ⟨false, (k : Int)⟩] _ _ (w.heap.size + 2) (w.heap.size + 4) (w.heap.size + 2) (w.heap.size + 3) (fun b => wo.heap.size ≤ b ∧ b < wn.heap.size + 2) (fun _ => False) tm ((ls.length : Int) + 1) 0 _ _ wi _ H8.out.add H8.out.2.2.2 (by exact HBt.out.alloc zt _) (by exact els_of_blk [[.bool false, .int .i64 ((k : Int) + 1)], [.bool true, .int .i64 x], [.bool false, .int .i64 (k : Int)]] (Blk'.new wt _ _) rfl rfl (rd_three0 ⟨rfl, HIk2.out⟩ ⟨rfl, HIx.out⟩ ⟨rfl, HIk.out⟩) ⟨zt, by simp⟩) (by simp) HIr.out HLn2.out).mono ?_; rintro e w9 ⟨rfl, hf9, hb9, hx9⟩; have H9 := Lib.hid (And.intro (H8.out.added (by exact HBt.out.alloc zt _) hf9 hb9) (And.intro ((hx9 wo.heap.size ⟨Nat.le_refl _, by omega⟩).trans ((HL8.out.below HBt.out HL8.out.lt).alloc _)) (And.intro ((hx9 wn.heap.size ⟨by omega, by omega⟩).trans ((HP8.out.1.below HBt.out zP0).alloc _)) ((hx9 (wn.heap.size + 1) ⟨by omega, by omega⟩).trans ((HP8.out.2.below HBt.out zP).alloc _))))); have o90 : w9.cell? ⟨wn.heap.size, 0, none⟩ = some (.bool false) := (show Blk' _ _ _ _ from H9.out.2.2.1).cell 0; have o91 : w9.cell? ⟨wn.heap.size, 1, none⟩ = some (.int .i64 k) := (show Blk' _ _ _ _ from H9.out.2.2.1).cell 1; have p90 : w9.cell? ⟨wn.heap.size + 1, 0, none⟩ = some (.bool false) := (show Blk' _ _ _ _ from H9.out.2.2.2).cell 0; have p91 : w9.cell? ⟨wn.heap.size + 1, 1, none⟩ = some (.int .i64 ((k : Int) + 1)) := (show Blk' _ _ _ _ from H9.out.2.2.2).cell 1; clear hf9 hb9 hx9))
              go_wp2
              go_roundw
              case rel => exact ⟨m + 1, r2 + 1, _, _, hlm, by go_num, rfl, by omega, by simp; omega, HR6.out, H9.out.1, H9.out.2.1, H9.out.2.2.1, H9.out.2.2.2, hLO, by rw [← ERq.out]; exact ER3.out, EL3.out⟩
              case measure => simp [intOf]; omega
            have h2 : (kd == 2) = false := by simpa using q2
            have ERq := Lib.hid (show layRule kd k x = ⟨(k : Int), [⟨true, x⟩, ⟨false, (k : Int)⟩]⟩ by simp [layRule, q0, q1, q2])
            clear q0 q1 q2
            go_wp2_with fail
            go_region_held3 (fun w' => w'.cell? ⟨wn.heap.size, 0, none⟩ = some (.bool false) ∧ w'.cell? ⟨wn.heap.size, 1, none⟩ = some (.int .i64 k) ∧ w'.cell? ⟨wn.heap.size + 1, 0, none⟩ = some (.bool false) ∧ w'.cell? ⟨wn.heap.size + 1, 1, none⟩ = some (.int .i64 ((k : Int) + 1))) (go_keep)
              (first
              | (go_at_call 112; refine (t_any _ _).mono ?_; rintro e wt ⟨rfl, hbt⟩; have ht1 := HP8.out.1.below (bundrew hbt) zP0; have ht2 := HP8.out.2.below (bundrew hbt) zP; have ot0 : wt.cell? ⟨wn.heap.size, 0, none⟩ = some (.bool false) := ht1.cell 0; have ot1 : wt.cell? ⟨wn.heap.size, 1, none⟩ = some (.int .i64 k) := ht1.cell 1; have pt0 : wt.cell? ⟨wn.heap.size + 1, 0, none⟩ = some (.bool false) := ht2.cell 0; have pt1 : wt.cell? ⟨wn.heap.size + 1, 1, none⟩ = some (.int .i64 ((k : Int) + 1)) := ht2.cell 1; have HBt := Lib.hid (bundrew hbt); have zt := hbt.size; clear hbt ht1 ht2)
              | (go_at_call 111; refine (layAdd_any _ _ HIk.out [⟨true, x⟩, ⟨false, (k : Int)⟩] _ _ (w.heap.size + 2) (w.heap.size + 4) (w.heap.size + 2) (w.heap.size + 3) (fun b => wo.heap.size ≤ b ∧ b < wn.heap.size + 2) (fun _ => False) tm ((ls.length : Int) + 1) 0 _ _ wi _ H8.out.add H8.out.2.2.2 (by exact HBt.out.alloc zt _) (by exact els_of_blk [[.bool true, .int .i64 x], [.bool false, .int .i64 (k : Int)]] (Blk'.new wt _ _) rfl rfl (rd_two ⟨rfl, HIx.out⟩ ⟨rfl, HIk.out⟩) ⟨zt, by simp⟩) (by simp) HIr.out HLn2.out).mono ?_; rintro e w9 ⟨rfl, hf9, hb9, hx9⟩; have H9 := Lib.hid (And.intro (H8.out.added (by exact HBt.out.alloc zt _) hf9 hb9) (And.intro ((hx9 wo.heap.size ⟨Nat.le_refl _, by omega⟩).trans ((HL8.out.below HBt.out HL8.out.lt).alloc _)) (And.intro ((hx9 wn.heap.size ⟨by omega, by omega⟩).trans ((HP8.out.1.below HBt.out zP0).alloc _)) ((hx9 (wn.heap.size + 1) ⟨by omega, by omega⟩).trans ((HP8.out.2.below HBt.out zP).alloc _))))); have o90 : w9.cell? ⟨wn.heap.size, 0, none⟩ = some (.bool false) := (show Blk' _ _ _ _ from H9.out.2.2.1).cell 0; have o91 : w9.cell? ⟨wn.heap.size, 1, none⟩ = some (.int .i64 k) := (show Blk' _ _ _ _ from H9.out.2.2.1).cell 1; have p90 : w9.cell? ⟨wn.heap.size + 1, 0, none⟩ = some (.bool false) := (show Blk' _ _ _ _ from H9.out.2.2.2).cell 0; have p91 : w9.cell? ⟨wn.heap.size + 1, 1, none⟩ = some (.int .i64 ((k : Int) + 1)) := (show Blk' _ _ _ _ from H9.out.2.2.2).cell 1; clear hf9 hb9 hx9))
            go_wp2
            go_roundw
            case rel => exact ⟨m + 1, r2 + 1, _, _, hlm, by go_num, rfl, by omega, by simp; omega, HR6.out, H9.out.1, H9.out.2.1, H9.out.2.2.1, H9.out.2.2.2, hLO, by rw [← ERq.out]; exact ER3.out, EL3.out⟩
            case measure => simp [intOf]; omega
          · have ER4 := Lib.hid (show layRules bb ⟨tm, at_, op, cl, ls⟩ = rs1 ++ (⟨(k : Int), [⟨false, (k : Int) + 1⟩]⟩ :: (layFrom (k + 1) (ls.drop (k + 1)) ++ layTailR bb ⟨tm, at_, op, cl, ls⟩)) by rw [HR.out, List.drop_of_length_le (by omega)]; rfl)
            have EL4 := Lib.hid (show layTo bb ⟨tm, at_, op, cl, ls⟩ = lv1 ++ (-1 :: (toFrom r2 (ls.drop (k + 1)) ++ layTailL bb)) by rw [HL.out, List.drop_of_length_le (by omega)]; have e : r + (os.length : Int) = r2 := by { have := HR5.out; omega }; rw [e]; rfl)
            have ER5 := Lib.hid (show layRules bb ⟨tm, at_, op, cl, ls⟩ = (rs1 ++ [⟨(k : Int), [⟨false, (k : Int) + 1⟩]⟩]) ++ (layFrom (k + 1) (ls.drop (k + 1)) ++ layTailR bb ⟨tm, at_, op, cl, ls⟩) by rw [ER4.out]; simp)
            have EL5 := Lib.hid (show layTo bb ⟨tm, at_, op, cl, ls⟩ = (lv1 ++ [-1]) ++ (toFrom r2 (ls.drop (k + 1)) ++ layTailL bb) by rw [EL4.out]; simp)
            have HIk2 : Hid (I64 ((k : Int) + 1)) := Lib.hid ⟨by omega, by omega⟩
            clear HR HL ER4 EL4 HR5
            go_wp2_with fail
            refine (layAdd_any _ _ HIk.out [⟨false, (k : Int) + 1⟩] _ _ (w.heap.size + 2) (w.heap.size + 4) (w.heap.size + 2) (w.heap.size + 3) (fun b => wo.heap.size ≤ b ∧ b < wn.heap.size + 2) (fun _ => False) tm ((ls.length : Int) + 1) 0 _ _ wi _ H8.out.add H8.out.2.2.2 (by exact (Below.refl _ _).alloc (Nat.le_refl _) _) (by exact els_of_blk [[.bool false, .int .i64 ((k : Int) + 1)]] (Blk'.new wi _ _) rfl rfl (rd_one ⟨rfl, HIk2.out⟩) ⟨by omega, by simp⟩) (by simp) ⟨by decide, by decide⟩ HLn2.out).mono ?_
            rintro e w9 ⟨rfl, hf9, hb9, hx9⟩
            have H9 := Lib.hid (H8.out.added (by exact (Below.refl _ _).alloc (Nat.le_refl _) _) hf9 hb9)
            clear hf9 hb9 hx9
            go_wp2
            go_roundw
            case rel => exact ⟨k + 1, r2, _, _, hlt, by go_num, rfl, hr3, by simp; omega, H9.out.free, ER5.out, EL5.out⟩
            case measure => simp [intOf]; omega
      · have a1 : wo.cell? ⟨w.heap.size, 1, none⟩ = some (.int .i64 at_) := H7.out.2.1.cell 1
        have z7 : w.heap.size < wo.heap.size := H7.out.2.1.lt
        have ER := Lib.hid (show layRules bb ⟨tm, at_, op, cl, ls⟩ = rs ++ layTailR bb ⟨tm, at_, op, cl, ls⟩ by rw [HR.out, List.drop_of_length_le (by omega)]; rfl)
        have EL := Lib.hid (show layTo bb ⟨tm, at_, op, cl, ls⟩ = lv ++ layTailL bb by rw [HL.out, List.drop_of_length_le (by omega)]; rfl)
        clear HR HL
        go_wp2_with fail
        refine (t_any _ _).mono ?_
        rintro e wt ⟨rfl, hbt⟩
        have HBt := Lib.hid hbt
        have zt := hbt.size
        clear hbt
        go_wp2_with fail
        refine (layAdd_any _ _ HIn.out [⟨true, at_⟩] _ _ (w.heap.size + 2) (w.heap.size + 4) (w.heap.size + 2) (w.heap.size + 3) (fun _ => False) (fun _ => False) tm ((ls.length : Int) + 1) 0 _ _ wo _ H7.out.add H7.out.2.2.2 (by exact HBt.out.alloc zt _) (by exact els_of_blk [[.bool true, .int .i64 at_]] (Blk'.new wt _ _) rfl rfl (rd_one ⟨rfl, H64.out.2.1⟩) ⟨zt, by simp⟩) (by simp) ⟨by decide, by decide⟩ HLn.out).mono ?_
        rintro e w9 ⟨rfl, hf9, hb9, _⟩
        have H9 := Lib.hid (H7.out.added (by exact HBt.out.alloc zt _) hf9 hb9)
        have c90 : w9.cell? ⟨w.heap.size, 0, none⟩ = some (.int .i64 tm) := H9.out.2.1.cell 0
        have c91 : w9.cell? ⟨w.heap.size, 1, none⟩ = some (.int .i64 at_) := H9.out.2.1.cell 1
        have c92 : w9.cell? ⟨w.heap.size, 2, none⟩ = some (.int .i64 op) := H9.out.2.1.cell 2
        have c93 : w9.cell? ⟨w.heap.size, 3, none⟩ = some (.int .i64 cl) := H9.out.2.1.cell 3
        have c94 : w9.cell? ⟨w.heap.size, 4, none⟩ = some (.slice A ls.length c) := H9.out.2.1.cell 4
        have hl1 : rs.length ≤ 1000000 ∧ lv.length ≤ 1000000 := HLn.out
        have HLn3 : Hid ((rs ++ [(⟨(ls.length : Int), [⟨true, at_⟩]⟩ : Rule)]).length ≤ 1000000 ∧ (lv ++ [(0 : Int)]).length ≤ 1000000) := Lib.hid (by have h := HN.out; rw [ER.out, EL.out] at h; simp only [layTailR, layTailL, List.length_append, List.length_cons] at h; simp only [List.length_append, List.length_cons, List.length_nil]; omega)
        clear hf9 hb9 a1 z7 HBt zt hl1 hrb HLn
        go_wp2_with fail
        refine (brackets_any _ tm at_ op cl ls _ ⟨_, _, _, rfl⟩).mono ?_
        rintro e w10 ⟨rfl, hb10⟩
        have H10 := Lib.hid (H9.out.below hb10)
        clear hb10 H9 c90 c91 c92 c93 c94
        cases hbk2 : brk ⟨tm, at_, op, cl, ls⟩
        · have ER5 : Hid (layRules (brk ⟨tm, at_, op, cl, ls⟩) ⟨tm, at_, op, cl, ls⟩ = rs ++ [⟨(ls.length : Int), [⟨true, at_⟩]⟩]) := Lib.hid (by rw [← HBB.out, ER.out]; rw [HBB.out.trans hbk2]; rfl)
          have EL5 : Hid (layTo (brk ⟨tm, at_, op, cl, ls⟩) ⟨tm, at_, op, cl, ls⟩ = lv ++ [0]) := Lib.hid (by rw [← HBB.out, EL.out]; rw [HBB.out.trans hbk2]; rfl)
          clear hbk2
          obtain ⟨v1, v2, hG, hL, h2, hX⟩ := H10.out.2.2.2
          obtain ⟨A1, n1, c1, rfl⟩ : ∃ A n c, v1 = Value.slice A n c := by obtain ⟨A, c, e, _⟩ := h2.1.form; exact ⟨_, _, _, e⟩
          obtain ⟨A2, n2, c2, rfl⟩ : ∃ A n c, v2 = Value.slice A n c := by obtain ⟨A, c, e, _⟩ := h2.2.1.form; exact ⟨_, _, _, e⟩
          have g0 : w10.cell? ⟨w.heap.size + 1 + 1, 0, none⟩ = some (.int .i64 tm) := hG.cell 0
          have g1 : w10.cell? ⟨w.heap.size + 1 + 1, 1, none⟩ = some (.int .i64 ((ls.length : Int) + 1)) := hG.cell 1
          have g2 : w10.cell? ⟨w.heap.size + 1 + 1, 2, none⟩ = some (.int .i64 0) := hG.cell 2
          have g3 : w10.cell? ⟨w.heap.size + 1 + 1, 3, none⟩ = some (.slice A1 n1 c1) := hG.cell 3
          have l0 : w10.cell? ⟨w.heap.size + 1 + 1 + 1, 0, none⟩ = some (.slice A2 n2 c2) := hL.cell 0
          have r0 : w10.cell? ⟨w.heap.size + 1, 0, none⟩ = some (.int .i64 0) := H10.out.2.2.1.cell 0
          have r1 : w10.cell? ⟨w.heap.size + 1, 1, none⟩ = some (.int .i64 0) := H10.out.2.2.1.cell 1
          have r2 : w10.cell? ⟨w.heap.size + 1, 2, none⟩ = some (.int .i64 0) := H10.out.2.2.1.cell 2
          have r3 : w10.cell? ⟨w.heap.size + 1, 3, none⟩ = some (.slice none 0 0) := H10.out.2.2.1.cell 3
          have f0 := H10.out.2.2.1.frozen 0
          have f1 := H10.out.2.2.1.frozen 1
          have f2 := H10.out.2.2.1.frozen 2
          have f3 := H10.out.2.2.1.frozen 3
          have H2 := Lib.hid h2
          have HW := Lib.hid ((((H10.out.2.2.1.set_ 0 (.int .i64 tm)).set_ 1 (.int .i64 ((ls.length : Int) + 1))).set_ 2 (.int .i64 0)).set_ 3 (.slice A1 n1 c1))
          have HT2 := Lib.hid (((((h2.set_ (p := ⟨w.heap.size + 1, 0, none⟩) (by simp) (.int .i64 tm)).set_ (p := ⟨w.heap.size + 1, 1, none⟩) (by simp) (.int .i64 ((ls.length : Int) + 1))).set_ (p := ⟨w.heap.size + 1, 2, none⟩) (by simp) (.int .i64 0)).set_ (p := ⟨w.heap.size + 1, 3, none⟩) (by simp) (.slice A1 n1 c1)).drew)
          have HBl := Lib.hid (((((H10.out.1.setCell (p := ⟨w.heap.size + 1, 0, none⟩) (by simp) (.int .i64 tm)).setCell (p := ⟨w.heap.size + 1, 1, none⟩) (by simp) (.int .i64 ((ls.length : Int) + 1))).setCell (p := ⟨w.heap.size + 1, 2, none⟩) (by simp) (.int .i64 0)).setCell (p := ⟨w.heap.size + 1, 3, none⟩) (by simp) (.slice A1 n1 c1)).drew)
          clear hG hL h2 hX
          go_wp2_with fail
          go_region
          all_goals
            have q0 := HW.out.cell 0
            have q1 := HW.out.cell 1
            have q2 := HW.out.cell 2
            have q3 := HW.out.cell 3
            simp at q0 q1 q2 q3
            clear g0 g1 g2 g3 l0 r0 r1 r2 r3 f0 f1 f2 f3
            go_wp2
            exact bodyPost_ret (v := .tuple #[.agg #[.int .i64 tm, .int .i64 ((ls.length : Int) + 1), .int .i64 0, .slice A1 n1 c1], .slice A2 n2 c2]) (by simp [results, Tryd.results68, go_sem, q0, q1, q2, q3]) rfl ⟨_, _, rfl, by rw [ER5.out, EL5.out]; exact HT2.out.rebase (by omega), HBl.out⟩
        · have ER5 : Hid (layRules (brk ⟨tm, at_, op, cl, ls⟩) ⟨tm, at_, op, cl, ls⟩ = (rs ++ [⟨(ls.length : Int), [⟨true, at_⟩]⟩]) ++ [⟨(ls.length : Int), [⟨true, op⟩, ⟨false, 0⟩, ⟨true, cl⟩]⟩]) := Lib.hid (by rw [← HBB.out, ER.out]; rw [HBB.out.trans hbk2]; simp [layTailR])
          have EL5 : Hid (layTo (brk ⟨tm, at_, op, cl, ls⟩) ⟨tm, at_, op, cl, ls⟩ = (lv ++ [0]) ++ [1]) := Lib.hid (by rw [← HBB.out, EL.out]; rw [HBB.out.trans hbk2]; simp [layTailL])
          clear hbk2
          have d2 : w10.cell? ⟨w.heap.size, 2, none⟩ = some (.int .i64 op) := H10.out.2.1.cell 2
          have d3 : w10.cell? ⟨w.heap.size, 3, none⟩ = some (.int .i64 cl) := H10.out.2.1.cell 3
          go_wp2_with fail
          go_region_held3 (fun w' => w'.cell? ⟨w.heap.size, 2, none⟩ = some (.int .i64 op) ∧ w'.cell? ⟨w.heap.size, 3, none⟩ = some (.int .i64 cl)) (go_keep)
            (first
            | (go_at_call 112; refine (t_any _ _).mono ?_; rintro e wt ⟨rfl, hbt⟩; have ht := H10.out.below (bundrew hbt); have ct2 : wt.cell? ⟨w.heap.size, 2, none⟩ = some (.int .i64 op) := ht.2.1.cell 2; have ct3 : wt.cell? ⟨w.heap.size, 3, none⟩ = some (.int .i64 cl) := ht.2.1.cell 3; have HBt := Lib.hid (bundrew hbt); have HT := Lib.hid ht; have zt := hbt.size; clear hbt ht)
            | (go_at_call 77; refine (n_any _ _).mono ?_; rintro e wv ⟨rfl, hbv⟩; have ht := HT.out.below hbv; have cv2 : wv.cell? ⟨w.heap.size, 2, none⟩ = some (.int .i64 op) := ht.2.1.cell 2; have cv3 : wv.cell? ⟨w.heap.size, 3, none⟩ = some (.int .i64 cl) := ht.2.1.cell 3; have HBv2 := Lib.hid (bthen HBt.out hbv zt); have HV := Lib.hid ht; have zv := Nat.le_trans zt hbv.size; clear hbv ht)
            | (go_at_call 112; refine (t_any _ _).mono ?_; rintro e wu ⟨rfl, hbu⟩; have ht := HV.out.below hbu; have cu2 : wu.cell? ⟨w.heap.size, 2, none⟩ = some (.int .i64 op) := ht.2.1.cell 2; have cu3 : wu.cell? ⟨w.heap.size, 3, none⟩ = some (.int .i64 cl) := ht.2.1.cell 3; have HBu := Lib.hid (bthen HBv2.out hbu zv); have zu := Nat.le_trans zv hbu.size; clear hbu ht)
            | (go_at_call 111; refine (layAdd_any _ _ HIn.out [⟨true, op⟩, ⟨false, 0⟩, ⟨true, cl⟩] _ _ (w.heap.size + 2) (w.heap.size + 4) (w.heap.size + 2) (w.heap.size + 3) (fun _ => False) (fun _ => False) tm ((ls.length : Int) + 1) 0 _ _ w10 _ H10.out.add H10.out.2.2.2 (by exact HBu.out.alloc zu _) (by exact els_of_blk [[.bool true, .int .i64 op], [.bool false, .int .i64 0], [.bool true, .int .i64 cl]] (Blk'.new wu _ _) rfl rfl (rd_three0 ⟨rfl, H64.out.2.2.1⟩ ⟨rfl, by decide, by decide⟩ ⟨rfl, H64.out.2.2.2⟩) ⟨zu, by simp⟩) (by simp) ⟨by decide, by decide⟩ HLn3.out).mono ?_; rintro e w11 ⟨rfl, hf11, hb11, _⟩; have H11 := Lib.hid (H10.out.added (by exact HBu.out.alloc zu _) hf11 hb11); have c112 : w11.cell? ⟨w.heap.size, 2, none⟩ = some (.int .i64 op) := H11.out.2.1.cell 2; have c113 : w11.cell? ⟨w.heap.size, 3, none⟩ = some (.int .i64 cl) := H11.out.2.1.cell 3; clear hf11 hb11))
          obtain ⟨v1, v2, hG, hL, h2, hX⟩ := H11.out.2.2.2
          obtain ⟨A1, n1, c1, rfl⟩ : ∃ A n c, v1 = Value.slice A n c := by obtain ⟨A, c, e, _⟩ := h2.1.form; exact ⟨_, _, _, e⟩
          obtain ⟨A2, n2, c2, rfl⟩ : ∃ A n c, v2 = Value.slice A n c := by obtain ⟨A, c, e, _⟩ := h2.2.1.form; exact ⟨_, _, _, e⟩
          have g0 : w11.cell? ⟨w.heap.size + 1 + 1, 0, none⟩ = some (.int .i64 tm) := hG.cell 0
          have g1 : w11.cell? ⟨w.heap.size + 1 + 1, 1, none⟩ = some (.int .i64 ((ls.length : Int) + 1)) := hG.cell 1
          have g2 : w11.cell? ⟨w.heap.size + 1 + 1, 2, none⟩ = some (.int .i64 0) := hG.cell 2
          have g3 : w11.cell? ⟨w.heap.size + 1 + 1, 3, none⟩ = some (.slice A1 n1 c1) := hG.cell 3
          have l0 : w11.cell? ⟨w.heap.size + 1 + 1 + 1, 0, none⟩ = some (.slice A2 n2 c2) := hL.cell 0
          have r0 : w11.cell? ⟨w.heap.size + 1, 0, none⟩ = some (.int .i64 0) := H11.out.2.2.1.cell 0
          have r1 : w11.cell? ⟨w.heap.size + 1, 1, none⟩ = some (.int .i64 0) := H11.out.2.2.1.cell 1
          have r2 : w11.cell? ⟨w.heap.size + 1, 2, none⟩ = some (.int .i64 0) := H11.out.2.2.1.cell 2
          have r3 : w11.cell? ⟨w.heap.size + 1, 3, none⟩ = some (.slice none 0 0) := H11.out.2.2.1.cell 3
          have f0 := H11.out.2.2.1.frozen 0
          have f1 := H11.out.2.2.1.frozen 1
          have f2 := H11.out.2.2.1.frozen 2
          have f3 := H11.out.2.2.1.frozen 3
          have H2 := Lib.hid h2
          have HW := Lib.hid ((((H11.out.2.2.1.set_ 0 (.int .i64 tm)).set_ 1 (.int .i64 ((ls.length : Int) + 1))).set_ 2 (.int .i64 0)).set_ 3 (.slice A1 n1 c1))
          have HT2 := Lib.hid (((((h2.set_ (p := ⟨w.heap.size + 1, 0, none⟩) (by simp) (.int .i64 tm)).set_ (p := ⟨w.heap.size + 1, 1, none⟩) (by simp) (.int .i64 ((ls.length : Int) + 1))).set_ (p := ⟨w.heap.size + 1, 2, none⟩) (by simp) (.int .i64 0)).set_ (p := ⟨w.heap.size + 1, 3, none⟩) (by simp) (.slice A1 n1 c1)).drew)
          have HBl := Lib.hid (((((H11.out.1.setCell (p := ⟨w.heap.size + 1, 0, none⟩) (by simp) (.int .i64 tm)).setCell (p := ⟨w.heap.size + 1, 1, none⟩) (by simp) (.int .i64 ((ls.length : Int) + 1))).setCell (p := ⟨w.heap.size + 1, 2, none⟩) (by simp) (.int .i64 0)).setCell (p := ⟨w.heap.size + 1, 3, none⟩) (by simp) (.slice A1 n1 c1)).drew)
          clear hG hL h2 hX
          go_wp2_with fail
          go_region
          all_goals
            have q0 := HW.out.cell 0
            have q1 := HW.out.cell 1
            have q2 := HW.out.cell 2
            have q3 := HW.out.cell 3
            simp at q0 q1 q2 q3
            clear g0 g1 g2 g3 l0 r0 r1 r2 r3 f0 f1 f2 f3
            go_wp2
            exact bodyPost_ret (v := .tuple #[.agg #[.int .i64 tm, .int .i64 ((ls.length : Int) + 1), .int .i64 0, .slice A1 n1 c1], .slice A2 n2 c2]) (by simp [results, Tryd.results68, go_sem, q0, q1, q2, q3]) rfl ⟨_, _, rfl, by rw [ER5.out, EL5.out]; exact HT2.out.rebase (by omega), HBl.out⟩
end Go.Proofs.YtjdojogjogenkaaDoor
