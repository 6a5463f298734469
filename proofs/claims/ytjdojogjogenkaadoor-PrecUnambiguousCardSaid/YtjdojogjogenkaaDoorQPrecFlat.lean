/- Contract: prec.flat. -/
import Derived.Test.YtjdojogjogenkaaDoorQw2
import Derived.Test.YtjdojogjogenkaaDoorQw1
import Derived.Deep.RegionHeld3
namespace Go.Proofs.YtjdojogjogenkaaDoor
open Go.RowKit
set_option linter.unusedVariables false

theorem OwnX.base {w : World} {T : Nat → Prop} {base base' : Nat} {e : TypeId} {v : Value} {α : Type} [Dat α] {xs : List α} (h : OwnX w T base e v xs) (hb : base' ≤ base) : OwnX w T base' e v xs := by
  obtain ⟨css, h1, h2, h3⟩ := h
  refine ⟨css, ⟨h1.1, ?_⟩, h2, h3⟩
  rcases h1.2 with h | ⟨g, cap, cur, q1, q2, q3⟩
  · exact .inl h
  · exact .inr ⟨g, cap, cur, q1, Nat.le_trans hb q2, q3⟩
theorem Two.rebase {w : World} {S : Nat → Prop} {B B' : Nat} {e1 e2 : TypeId} {v1 v2 : Value} {α β : Type} [Dat α] [Dat β] {xs : List α} {ys : List β} (h : Two w S B e1 e2 v1 v2 xs ys) (hb : B' ≤ B) : Two w S B' e1 e2 v1 v2 xs ys :=
  ⟨(h.1.base hb).mono (fun _ hx => ⟨hx.1.imp id (fun h => Nat.le_trans hb h), hx.2⟩) (fun k hk hx => hx.2.1 hk) (fun _ hx => hx.2.2.2), (h.2.1.base hb).mono (fun _ hx => ⟨hx.1.imp id (fun h => Nat.le_trans hb h), hx.2⟩) (fun k hk hx => hx.2.2.1 hk) (fun _ hx => hx.2.2.2), h.2.2⟩
theorem rd_three0 {α : Type} [Dat α] {w : World} {S : Nat → Prop} {x y z : α} {cs ds es : List Value} (h1 : Dat.rd w S x cs) (h2 : Dat.rd w S y ds) (h3 : Dat.rd w S z es) : ∀ (i : Nat) (u : α) (us : List Value), [x, y, z][i]? = some u → [cs, ds, es][i]? = some us → Dat.rd w S u us
  | 0, u, us, hi, hd => by simp at hi hd; subst hi; subst hd; exact h1
  | 1, u, us, hi, hd => by simp at hi hd; subst hi; subst hd; exact h2
  | 2, u, us, hi, hd => by simp at hi hd; subst hi; subst hd; exact h3
  | _ + 3, u, us, hi, _ => by simp at hi
/-- The state of prec.flat: E is the block of the symbol e. -/
def FS (X : Nat → Prop) (w : World) (t : Table) (A : Option Addr) (c E : Nat) (rs : List Rule) (ls : List Int) (wr : World) : Prop :=
  Below w.heap.size w wr ∧ Blk' wr w.heap.size 65 #[.int .i64 t.terms, .int .i64 t.atom, .int .i64 t.opn, .int .i64 t.cls, .slice A t.levels.length c] ∧
    Blk' wr (w.heap.size + 1) 24 #[.int .i64 0, .int .i64 0, .int .i64 0, .slice none 0 0] ∧ Blk' wr E 40 #[.bool false, .int .i64 0] ∧ w.heap.size + 1 < E ∧
    FlatSt X (fun _ => False) (E + 3) (E + 1) (E + 2) t.terms 1 0 rs ls wr
theorem FS.lt {X : Nat → Prop} {w wr : World} {t : Table} {A : Option Addr} {c E : Nat} {rs : List Rule} {ls : List Int} (h : FS X w t A c E rs ls wr) : E + 3 ≤ wr.heap.size := by
  obtain ⟨_, _, _, _, _, v1, v2, h1, h2, h3, _⟩ := h
  exact h2.lt
theorem FS.below {X : Nat → Prop} {w wr w' : World} {t : Table} {A : Option Addr} {c E : Nat} {rs : List Rule} {ls : List Int} (h : FS X w t A c E rs ls wr) (hb : Below wr.heap.size wr w') : FS X w t A c E rs ls w' := by
  obtain ⟨h1, h2, h3, h4, h5, h6⟩ := h
  exact ⟨bthen h1 hb h1.size, h2.below hb h2.lt, h3.below hb h3.lt, h4.below hb h4.lt, h5, h6.below hb⟩
/-- What a call of add leaves. -/
theorem FS.added {X : Nat → Prop} {w wr wm w' : World} {t : Table} {A : Option Addr} {c E : Nat} {rs rs' : List Rule} {ls ls' : List Int} (h : FS X w t A c E rs ls wr) (hb : Below wr.heap.size wr wm) (hf : FlatSt X (fun _ => False) (E + 3) (E + 1) (E + 2) t.terms 1 0 rs' ls' w') (hb' : Below (E + 1) wm w') : FS X w t A c E rs' ls' w' := by
  have hl := h.lt
  obtain ⟨h1, h2, h3, h4, h5, h6⟩ := h
  have hb2 := (hb.mono (show E + 1 ≤ wr.heap.size by omega)).trans hb'
  exact ⟨h1.trans (hb2.mono (by omega)), h2.below hb2 (by omega), h3.below hb2 (by omega), h4.below hb2 (by omega), h5, hf⟩
theorem FS.add {X : Nat → Prop} {w wr : World} {t : Table} {A : Option Addr} {c E : Nat} {rs : List Rule} {ls : List Int} (h : FS X w t A c E rs ls wr) : E + 1 ≤ E + 1 ∧ E + 1 < E + 3 ∧ E + 1 ≤ E + 2 ∧ E + 2 < E + 3 ∧ E + 1 ≠ E + 2 ∧ E + 3 ≤ wr.heap.size ∧ ¬ False ∧ ¬ False := by
  have := h.lt
  simp; omega

theorem FS.guard {X : Nat → Prop} {w wr : World} {t : Table} {A : Option Addr} {c E : Nat} {rs : List Rule} {ls : List Int} (h : FS X w t A c E rs ls wr) (o : Obj) : FS (fun b => b = wr.heap.size) w t A c E rs ls (wr.alloc o) := by
  have h' := h.below ((Below.refl wr.heap.size wr).alloc (Nat.le_refl _) o)
  exact ⟨h'.1, h'.2.1, h'.2.2.1, h'.2.2.2.1, h'.2.2.2.2.1, h.2.2.2.2.2.guard o⟩
theorem FS.free {X : Nat → Prop} {w wr : World} {t : Table} {A : Option Addr} {c E : Nat} {rs : List Rule} {ls : List Int} (h : FS X w t A c E rs ls wr) : FS (fun _ => False) w t A c E rs ls wr := ⟨h.1, h.2.1, h.2.2.1, h.2.2.2.1, h.2.2.2.2.1, h.2.2.2.2.2.free⟩
def OutF (w : World) (t : Table) (A : Option Addr) (c E : Nat) (i : Value) (wr : World) : Prop :=
  ∃ (k : Nat) (rs : List Rule) (lv : List Int), k ≤ t.levels.length ∧ i = .int .i64 k ∧ FS (fun _ => False) w t A c E rs lv wr ∧ flatRules t = rs ++ ((t.levels.drop k).map levRules).flatten ∧ flatLev t = lv ++ levFrom k (t.levels.drop k)
def InFl (w : World) (t : Table) (A : Option Addr) (c E k : Nat) (kd : Int) (os : List Int) (Lb : Nat) (Ao : Option Addr) (co : Nat) (R1 : List Rule) (L1 : List Int) (i : Value) (wr : World) : Prop :=
  ∃ (m : Nat) (rs : List Rule) (lv : List Int), m ≤ os.length ∧ i = .int .i64 m ∧ FS (fun b => b = Lb) w t A c E rs lv wr ∧ Blk' wr Lb 120 #[.int .i64 kd, .slice Ao os.length co] ∧
    flatRules t = rs ++ ((os.drop m).map (opRule kd) ++ R1) ∧ flatLev t = lv ++ ((os.drop m).map (fun _ => (k : Int)) ++ L1)

set_option maxRecDepth 100000 in
set_option maxHeartbeats 1000000 in
theorem flat_any (t : Table) (A : Option Addr) (c : Nat) (S : Nat → Prop) (w : World) (h64 : I64 t.terms ∧ I64 t.atom ∧ I64 t.opn ∧ I64 t.cls) (hlc : t.levels.length ≤ c) (hc : c ≤ 9223372036854775807) (hA : Els w S t.levels A) (hS : ∀ b, S b → b < w.heap.size)
    (hN : (flatRules t).length ≤ 1000000 ∧ (flatLev t).length ≤ 1000000) :
    Calls Tryd.prog 113 #[.agg #[.int .i64 t.terms, .int .i64 t.atom, .int .i64 t.opn, .int .i64 t.cls, .slice A t.levels.length c]] w
      fun e w' => ∃ v1 v2, e = .returned (.tuple #[.agg #[.int .i64 t.terms, .int .i64 1, .int .i64 0, v1], v2]) ∧ Two w' (fun _ => False) w.heap.size 60 3 v1 v2 (flatRules t) (flatLev t) ∧ Below w.heap.size w w' := by
  obtain ⟨tm, at_, op, cl, ls⟩ := t
  dsimp only at *
  have HN := Lib.hid hN
  have H64 := Lib.hid h64
  clear hN h64
  go_enter Tryd.func113, Tryd.ntmps113
  go_wp2_with fail
  refine (n_any 0 _).mono ?_
  rintro e w1 ⟨rfl, hb1⟩
  have hT1 := ((Blk'.new w 65 #[.int .i64 tm, .int .i64 at_, .int .i64 op, .int .i64 cl, .slice A ls.length c]).alloc (.cells #[.int .i64 0, .int .i64 0, .int .i64 0, .slice none 0 0] 24)).below hb1 (by simp; omega)
  have hR1 := (Blk'.new' (g := w.heap.size + 1) (w.alloc (.cells #[.int .i64 tm, .int .i64 at_, .int .i64 op, .int .i64 cl, .slice A ls.length c] 65)) 24 #[.int .i64 0, .int .i64 0, .int .i64 0, .slice none 0 0] (by simp)).below hb1 (by simp)
  have Hb1 := Lib.hid (bthen ((((Below.refl w.heap.size w).alloc (Nat.le_refl _) (.cells #[.int .i64 tm, .int .i64 at_, .int .i64 op, .int .i64 cl, .slice A ls.length c] 65))).alloc (by simp) (.cells #[.int .i64 0, .int .i64 0, .int .i64 0, .slice none 0 0] 24)) hb1 (by simp; omega))
  have t10 : w1.cell? ⟨w.heap.size, 0, none⟩ = some (.int .i64 tm) := hT1.cell 0
  have z1 : w.heap.size + 1 < w1.heap.size := hR1.lt
  have z0 : w.heap.size < w1.heap.size := by omega
  have HT1 := Lib.hid hT1
  have HR1 := Lib.hid hR1
  clear hb1 hT1 hR1
  go_wp2_with fail
  obtain ⟨w2, hw2⟩ : ∃ w2 : World, w2 = ((w1.alloc (.cells #[.bool false, .int .i64 0] 40)).alloc (.cells #[.int .i64 tm, .int .i64 1, .int .i64 0, .slice none 0 0] 24)).alloc (.cells #[.slice none 0 0] 33) := ⟨_, rfl⟩
  rw [← hw2]
  have hba : Below w1.heap.size w1 w2 := by rw [hw2]; exact (((Below.refl _ _).alloc (Nat.le_refl _) _).alloc (by simp) _).alloc (by simp; omega) _
  have hE2 : Blk' w2 w1.heap.size 40 #[.bool false, .int .i64 0] := by rw [hw2]; exact ((Blk'.new _ _ _).alloc _).alloc _
  have hG2 : Blk' w2 (w1.heap.size + 1) 24 #[.int .i64 tm, .int .i64 1, .int .i64 0, .slice none 0 0] := by rw [hw2]; exact (Blk'.new' _ _ _ (by simp)).alloc _
  have hL2 : Blk' w2 (w1.heap.size + 2) 33 #[.slice none 0 0] := by rw [hw2]; exact Blk'.new' _ _ _ (by simp)
  have HF : Hid (FS (fun _ => False) w ⟨tm, at_, op, cl, ls⟩ A c w1.heap.size [] [] w2) := Lib.hid ⟨bthen Hb1.out hba Hb1.out.size, HT1.out.below hba z0, HR1.out.below hba z1, hE2, z1, _, _, hG2, hL2, Two.nil _ _ _ _ _, fun b hb => hb.elim⟩
  have t20 : w2.cell? ⟨w.heap.size, 1, none⟩ = some (.int .i64 at_) := HF.out.2.1.cell 1
  have t21 : w2.cell? ⟨w.heap.size, 4, none⟩ = some (.slice A ls.length c) := HF.out.2.1.cell 4
  have z2 : w.heap.size < w2.heap.size := HF.out.2.1.lt
  have zE : w1.heap.size + 3 ≤ w2.heap.size := HF.out.lt
  have hI1 : I64 (ls.length : Int) := ⟨by omega, by omega⟩
  have HI1 := Lib.hid hI1
  clear hba hE2 hG2 hL2 HT1 HR1 Hb1 t10 hw2 hI1
  generalize w1.heap.size = E at *
  clear w1
  go_region_held3 (fun w' => w'.cell? ⟨w.heap.size, 4, none⟩ = some (.slice A ls.length c) ∧ w'.cell? ⟨w.heap.size, 1, none⟩ = some (.int .i64 at_)) (go_keep)
    (first
    | (go_at_call 112; refine (t_any _ _).mono ?_; rintro e wt ⟨rfl, hbt⟩; have ct1 := (hbt.cell (p := ⟨w.heap.size, 1, none⟩) z2).trans t20; have ct4 := (hbt.cell (p := ⟨w.heap.size, 4, none⟩) z2).trans t21; have HBt := Lib.hid hbt; have zt := hbt.size; clear hbt)
    | (go_at_call 141; refine (flatAdd_any _ [⟨true, at_⟩] _ _ (E + 1) (E + 3) (E + 1) (E + 2) (fun _ => False) (fun _ => False) tm 1 0 [] [] w2 _ HF.out.add HF.out.2.2.2.2.2 (by exact (bundrew HBt.out).alloc zt _) (by exact els_of_blk [[.bool true, .int .i64 at_]] (Blk'.new wt _ _) rfl rfl (rd_one ⟨rfl, H64.out.2.1⟩) ⟨zt, by simp⟩) (by simp) HI1.out (by simp)).mono ?_; rintro e w3 ⟨rfl, hf3, hb3, _⟩; have H3 := Lib.hid (HF.out.added (by exact (bundrew HBt.out).alloc zt _) hf3 hb3); have c31 : w3.cell? ⟨w.heap.size, 1, none⟩ = some (.int .i64 at_) := H3.out.2.1.cell 1; have c34 : w3.cell? ⟨w.heap.size, 4, none⟩ = some (.slice A ls.length c) := H3.out.2.1.cell 4; clear hf3 hb3))
  have c30 : w3.cell? ⟨w.heap.size, 0, none⟩ = some (.int .i64 tm) := H3.out.2.1.cell 0
  have c32 : w3.cell? ⟨w.heap.size, 2, none⟩ = some (.int .i64 op) := H3.out.2.1.cell 2
  have c33 : w3.cell? ⟨w.heap.size, 3, none⟩ = some (.int .i64 cl) := H3.out.2.1.cell 3
  clear HF t20 t21 z2 zE zt HBt ct1 ct4
  go_wp2_with fail
  refine (brackets_any _ tm at_ op cl ls _ ⟨_, _, _, rfl⟩).mono ?_
  rintro e w4 ⟨rfl, hb4⟩
  have H4 := Lib.hid (H3.out.below hb4)
  clear hb4 H3 c30 c31 c32 c33 c34
  have z4 : w.heap.size < w4.heap.size := H4.out.2.1.lt
  cases hbk : brk ⟨tm, at_, op, cl, ls⟩
  focus
    have ER : Hid (flatRules ⟨tm, at_, op, cl, ls⟩ = ([] ++ [⟨0, [⟨true, at_⟩]⟩]) ++ (ls.map levRules).flatten) := Lib.hid (by simp [flatRules, hbk])
    have EL : Hid (flatLev ⟨tm, at_, op, cl, ls⟩ = ([] ++ [(ls.length : Int)]) ++ levFrom 0 ls) := Lib.hid (by simp [flatLev, hbk])
    have HF := H4
    have k4 : w4.cell? ⟨w.heap.size, 4, none⟩ = some (.slice A ls.length c) := H4.out.2.1.cell 4
    have z6 : w.heap.size < w4.heap.size := z4
  rotate_left
  focus
    have ER : Hid (flatRules ⟨tm, at_, op, cl, ls⟩ = ([⟨0, [⟨true, at_⟩]⟩] ++ [⟨0, [⟨true, op⟩, ⟨false, 0⟩, ⟨true, cl⟩]⟩]) ++ (ls.map levRules).flatten) := Lib.hid (by simp [flatRules, hbk])
    have EL : Hid (flatLev ⟨tm, at_, op, cl, ls⟩ = ([(ls.length : Int)] ++ [(ls.length : Int)]) ++ levFrom 0 ls) := Lib.hid (by simp [flatLev, hbk])
    have c42 : w4.cell? ⟨w.heap.size, 2, none⟩ = some (.int .i64 op) := H4.out.2.1.cell 2
    have c43 : w4.cell? ⟨w.heap.size, 3, none⟩ = some (.int .i64 cl) := H4.out.2.1.cell 3
    have c44 : w4.cell? ⟨w.heap.size, 4, none⟩ = some (.slice A ls.length c) := H4.out.2.1.cell 4
    have e40 : w4.cell? ⟨E, 0, none⟩ = some (.bool false) := H4.out.2.2.2.1.cell 0
    have e41 : w4.cell? ⟨E, 1, none⟩ = some (.int .i64 0) := H4.out.2.2.2.1.cell 1
    have zE : E < w4.heap.size := H4.out.2.2.2.1.lt
    go_wp2_with fail
    go_region_held3 (fun w' => w'.cell? ⟨w.heap.size, 4, none⟩ = some (.slice A ls.length c) ∧ w'.cell? ⟨w.heap.size, 2, none⟩ = some (.int .i64 op) ∧ w'.cell? ⟨w.heap.size, 3, none⟩ = some (.int .i64 cl) ∧ w'.cell? ⟨E, 0, none⟩ = some (.bool false) ∧ w'.cell? ⟨E, 1, none⟩ = some (.int .i64 0)) (go_keep)
      (first
      | (go_at_call 112; refine (t_any _ _).mono ?_; rintro e wt ⟨rfl, hbt⟩; have ht := H4.out.below (bundrew hbt); have ct2 : wt.cell? ⟨w.heap.size, 2, none⟩ = some (.int .i64 op) := ht.2.1.cell 2; have ct3 : wt.cell? ⟨w.heap.size, 3, none⟩ = some (.int .i64 cl) := ht.2.1.cell 3; have ct4 : wt.cell? ⟨w.heap.size, 4, none⟩ = some (.slice A ls.length c) := ht.2.1.cell 4; have et0 : wt.cell? ⟨E, 0, none⟩ = some (.bool false) := ht.2.2.2.1.cell 0; have et1 : wt.cell? ⟨E, 1, none⟩ = some (.int .i64 0) := ht.2.2.2.1.cell 1; have HBt := Lib.hid (bundrew hbt); have HT := Lib.hid ht; have zt := hbt.size; clear hbt ht)
      | (go_at_call 112; refine (t_any _ _).mono ?_; rintro e wu ⟨rfl, hbu⟩; have ht := HT.out.below hbu; have cu2 : wu.cell? ⟨w.heap.size, 2, none⟩ = some (.int .i64 op) := ht.2.1.cell 2; have cu3 : wu.cell? ⟨w.heap.size, 3, none⟩ = some (.int .i64 cl) := ht.2.1.cell 3; have cu4 : wu.cell? ⟨w.heap.size, 4, none⟩ = some (.slice A ls.length c) := ht.2.1.cell 4; have eu0 : wu.cell? ⟨E, 0, none⟩ = some (.bool false) := ht.2.2.2.1.cell 0; have eu1 : wu.cell? ⟨E, 1, none⟩ = some (.int .i64 0) := ht.2.2.2.1.cell 1; have HBu := Lib.hid (bthen HBt.out hbu zt); have zu := Nat.le_trans zt hbu.size; clear hbu ht)
      | (go_at_call 141; refine (flatAdd_any _ [⟨true, op⟩, ⟨false, 0⟩, ⟨true, cl⟩] _ _ (E + 1) (E + 3) (E + 1) (E + 2) (fun _ => False) (fun _ => False) tm 1 0 _ _ w4 _ H4.out.add H4.out.2.2.2.2.2 (by exact HBu.out.alloc zu _) (by exact els_of_blk [[.bool true, .int .i64 op], [.bool false, .int .i64 0], [.bool true, .int .i64 cl]] (Blk'.new wu _ _) rfl rfl (rd_three0 ⟨rfl, H64.out.2.2.1⟩ ⟨rfl, by decide, by decide⟩ ⟨rfl, H64.out.2.2.2⟩) ⟨zu, by simp⟩) (by simp) HI1.out (by simp)).mono ?_; rintro e w5 ⟨rfl, hf5, hb5, _⟩; have HF := Lib.hid (H4.out.added (by exact HBu.out.alloc zu _) hf5 hb5); have c52 : w5.cell? ⟨w.heap.size, 2, none⟩ = some (.int .i64 op) := HF.out.2.1.cell 2; have c53 : w5.cell? ⟨w.heap.size, 3, none⟩ = some (.int .i64 cl) := HF.out.2.1.cell 3; have k4 : w5.cell? ⟨w.heap.size, 4, none⟩ = some (.slice A ls.length c) := HF.out.2.1.cell 4; have e50 : w5.cell? ⟨E, 0, none⟩ = some (.bool false) := HF.out.2.2.2.1.cell 0; have e51 : w5.cell? ⟨E, 1, none⟩ = some (.int .i64 0) := HF.out.2.2.2.1.cell 1; clear hf5 hb5))
    have z6 := HF.out.2.1.lt
    clear H4 c42 c43 c44 e40 e41 zE HBt HT HBu zt zu ct2 ct3 ct4 et0 et1 cu2 cu3 cu4 eu0 eu1 c52 c53 e50 e51
  all_goals
    clear hbk
    go_wp2_with fail
    go_loopw [44] (fun i wr => OutF w ⟨tm, at_, op, cl, ls⟩ A c E i wr) (fun i _ => ls.length - (intOf i).toNat)
    case atStart => exact ⟨0, _, _, Nat.zero_le _, rfl, HF.out, ER.out, EL.out⟩
    case round =>
      obtain ⟨wo, hwo⟩ : ∃ wo : World, wo = wr := ⟨_, rfl⟩
      subst hwo
      obtain ⟨k, rs, lv, hk, rfl, hF, hr, hl⟩ := hrel
      dsimp only at hk hr hl
      have H7 := Lib.hid hF
      have HR := Lib.hid hr
      have HL := Lib.hid hl
      clear hF hr hl HF ER EL k4 z6
      by_cases hlt : k < ls.length
      · obtain ⟨x, hx⟩ := get_some hlt
        obtain ⟨b, o, Ao, co, rfl, hSb, hbs, hi, hoc, hco, hEo, hc0, hc1⟩ := hA.level hx
        have Hd := Lib.hid (drop_cons hx)
        have hk0 : (0 : Int) ≤ (k : Int) := by omega
        obtain ⟨kd, os⟩ := x
        dsimp only at *
        have d0 : wo.cell? ⟨b, o + k * 2, none⟩ = some (.int .i64 kd) := (H7.out.1.cell (p := ⟨b, o + k * 2, none⟩) hbs).trans hc0
        have d1 : wo.cell? ⟨b, o + k * 2 + 1, none⟩ = some (.slice Ao os.length co) := (H7.out.1.cell (p := ⟨b, o + k * 2 + 1, none⟩) hbs).trans hc1
        have hol : os.length ≤ 9223372036854775807 := by omega
        have HEo := Lib.hid hEo
        have hI : Hid (FS (fun b => b = wo.heap.size) w ⟨tm, at_, op, cl, (ls : List Level)⟩ (some ⟨b, o, none⟩) c E rs lv (wo.alloc (.cells #[.int .i64 kd, .slice Ao os.length co] 120))) := Lib.hid (H7.out.guard _)
        have HIk : Hid (I64 (k : Int)) := Lib.hid ⟨by omega, by omega⟩
        have ER2 : Hid (flatRules ⟨tm, at_, op, cl, ls⟩ = rs ++ ((os.drop 0).map (opRule kd) ++ ((ls.drop (k + 1)).map levRules).flatten)) := Lib.hid (by rw [HR.out, Hd.out]; rfl)
        have EL2 : Hid (flatLev ⟨tm, at_, op, cl, ls⟩ = lv ++ ((os.drop 0).map (fun _ => (k : Int)) ++ levFrom (k + 1) (ls.drop (k + 1)))) := Lib.hid (by rw [HL.out, Hd.out]; rfl)
        clear hx hEo hc0 hc1 HR HL Hd
        go_wp2_with fail
        go_loopw [52] (fun i wr => InFl w ⟨tm, at_, op, cl, ls⟩ (some ⟨b, o, none⟩) c E k kd os wo.heap.size Ao co ((ls.drop (k + 1)).map levRules).flatten (levFrom (k + 1) (ls.drop (k + 1))) i wr) (fun i _ => os.length - (intOf i).toNat)
        case atStart => exact ⟨0, _, _, Nat.zero_le _, rfl, hI.out, Blk'.new _ _ _, ER2.out, EL2.out⟩
        case round =>
          obtain ⟨wi, hwi⟩ : ∃ wi : World, wi = wr := ⟨_, rfl⟩
          subst hwi
          obtain ⟨m, rs1, lv1, hm, rfl, hF, hL, hr, hl⟩ := hrel
          have H8 := Lib.hid hF
          have HL8 := Lib.hid hL
          have HR := Lib.hid hr
          have HL := Lib.hid hl
          have l0 : wi.cell? ⟨wo.heap.size, 0, none⟩ = some (.int .i64 kd) := hL.cell 0
          have e80 : wi.cell? ⟨E, 0, none⟩ = some (.bool false) := hF.2.2.2.1.cell 0
          have e81 : wi.cell? ⟨E, 1, none⟩ = some (.int .i64 0) := hF.2.2.2.1.cell 1
          clear hF hL hr hl hI ER2 EL2 d0 d1
          by_cases hlm : m < os.length
          · obtain ⟨x, hx⟩ := get_some hlm
            obtain ⟨b2, o2, hAo, hSb2, hbs2, hix, hcx⟩ := (HEo.out.belowB H8.out.1 hS).int hx
            subst hAo
            have Hd := Lib.hid (drop_cons hx)
            have hm0 : (0 : Int) ≤ (m : Int) := by omega
            have HIx := Lib.hid hix
            have ER3 : Hid (flatRules ⟨tm, at_, op, cl, ls⟩ = (rs1 ++ [opRule kd x]) ++ ((os.drop (m + 1)).map (opRule kd) ++ ((ls.drop (k + 1)).map levRules).flatten)) := Lib.hid (by rw [HR.out, Hd.out]; simp)
            have EL3 : Hid (flatLev ⟨tm, at_, op, cl, ls⟩ = (lv1 ++ [(k : Int)]) ++ ((os.drop (m + 1)).map (fun _ => (k : Int)) ++ levFrom (k + 1) (ls.drop (k + 1)))) := Lib.hid (by rw [HL.out, Hd.out]; simp)
            have HLn : Hid (rs1.length ≤ 1000000 ∧ lv1.length ≤ 1000000) := Lib.hid (by have h := HN.out; rw [ER3.out, EL3.out] at h; simp only [List.length_append] at h; omega)
            clear hx hix HR HL
            have zE : E < wi.heap.size := H8.out.2.2.2.1.lt
            by_cases q : kd = 3
            · have hq : (kd == 3) = true := by simpa using q
              have ERq := Lib.hid (show opRule kd x = ⟨0, [⟨true, x⟩, ⟨false, 0⟩]⟩ by simp [opRule, q])
              clear q
              go_wp2_with fail
              go_region_held3 (fun w' => w'.cell? ⟨E, 0, none⟩ = some (.bool false) ∧ w'.cell? ⟨E, 1, none⟩ = some (.int .i64 0)) (go_keep)
                (first
            | (go_at_call 112; refine (t_any _ _).mono ?_; rintro e wt ⟨rfl, hbt⟩; have ht := H8.out.below (bundrew hbt); have et0 : wt.cell? ⟨E, 0, none⟩ = some (.bool false) := ht.2.2.2.1.cell 0; have et1 : wt.cell? ⟨E, 1, none⟩ = some (.int .i64 0) := ht.2.2.2.1.cell 1; have HBt := Lib.hid (bundrew hbt); have zt := hbt.size; clear hbt ht)
            | (go_at_call 141; refine (flatAdd_any _ [⟨true, x⟩, ⟨false, 0⟩] _ _ (E + 1) (E + 3) (E + 1) (E + 2) (fun b => b = wo.heap.size) (fun _ => False) tm 1 0 _ _ wi _ H8.out.add H8.out.2.2.2.2.2 (by exact HBt.out.alloc zt _) (by exact els_of_blk [[.bool true, .int .i64 x], [.bool false, .int .i64 0]] (Blk'.new wt _ _) rfl rfl (rd_two ⟨rfl, HIx.out⟩ ⟨rfl, by decide, by decide⟩) ⟨zt, by simp⟩) (by simp) HIk.out HLn.out).mono ?_; rintro e w9 ⟨rfl, hf9, hb9, hx9⟩; have H9 := Lib.hid (And.intro (H8.out.added (by exact HBt.out.alloc zt _) hf9 hb9) ((hx9 _ rfl).trans ((HL8.out.below HBt.out HL8.out.lt).alloc _))); have e90 : w9.cell? ⟨E, 0, none⟩ = some (.bool false) := H9.out.1.2.2.2.1.cell 0; have e91 : w9.cell? ⟨E, 1, none⟩ = some (.int .i64 0) := H9.out.1.2.2.2.1.cell 1; clear hf9 hb9 hx9))
              go_wp2
              go_roundw
              case rel => exact ⟨m + 1, _, _, hlm, by go_num, H9.out.1, H9.out.2, by rw [← ERq.out]; exact ER3.out, EL3.out⟩
              case measure => simp [intOf]; omega
            · have hq : (kd == 3) = false := by simpa using q
              have ERq := Lib.hid (show opRule kd x = ⟨0, [⟨false, 0⟩, ⟨true, x⟩, ⟨false, 0⟩]⟩ by simp [opRule, q])
              clear q
              go_wp2_with fail
              go_region_held3 (fun w' => w'.cell? ⟨E, 0, none⟩ = some (.bool false) ∧ w'.cell? ⟨E, 1, none⟩ = some (.int .i64 0)) (go_keep)
                (first
            | (go_at_call 112; refine (t_any _ _).mono ?_; rintro e wt ⟨rfl, hbt⟩; have ht := H8.out.below (bundrew hbt); have et0 : wt.cell? ⟨E, 0, none⟩ = some (.bool false) := ht.2.2.2.1.cell 0; have et1 : wt.cell? ⟨E, 1, none⟩ = some (.int .i64 0) := ht.2.2.2.1.cell 1; have HBt := Lib.hid (bundrew hbt); have zt := hbt.size; clear hbt ht)
            | (go_at_call 141; refine (flatAdd_any _ [⟨false, 0⟩, ⟨true, x⟩, ⟨false, 0⟩] _ _ (E + 1) (E + 3) (E + 1) (E + 2) (fun b => b = wo.heap.size) (fun _ => False) tm 1 0 _ _ wi _ H8.out.add H8.out.2.2.2.2.2 (by exact HBt.out.alloc zt _) (by exact els_of_blk [[.bool false, .int .i64 0], [.bool true, .int .i64 x], [.bool false, .int .i64 0]] (Blk'.new wt _ _) rfl rfl (rd_three0 ⟨rfl, by decide, by decide⟩ ⟨rfl, HIx.out⟩ ⟨rfl, by decide, by decide⟩) ⟨zt, by simp⟩) (by simp) HIk.out HLn.out).mono ?_; rintro e w9 ⟨rfl, hf9, hb9, hx9⟩; have H9 := Lib.hid (And.intro (H8.out.added (by exact HBt.out.alloc zt _) hf9 hb9) ((hx9 _ rfl).trans ((HL8.out.below HBt.out HL8.out.lt).alloc _))); have e90 : w9.cell? ⟨E, 0, none⟩ = some (.bool false) := H9.out.1.2.2.2.1.cell 0; have e91 : w9.cell? ⟨E, 1, none⟩ = some (.int .i64 0) := H9.out.1.2.2.2.1.cell 1; clear hf9 hb9 hx9))
              go_wp2
              go_roundw
              case rel => exact ⟨m + 1, _, _, hlm, by go_num, H9.out.1, H9.out.2, by rw [← ERq.out]; exact ER3.out, EL3.out⟩
              case measure => simp [intOf]; omega
          · have ER4 : Hid (flatRules ⟨tm, at_, op, cl, ls⟩ = rs1 ++ ((ls.drop (k + 1)).map levRules).flatten) := Lib.hid (by rw [HR.out, List.drop_of_length_le (by omega)]; rfl)
            have EL4 : Hid (flatLev ⟨tm, at_, op, cl, ls⟩ = lv1 ++ levFrom (k + 1) (ls.drop (k + 1))) := Lib.hid (by rw [HL.out, List.drop_of_length_le (by omega)]; rfl)
            go_wp2
            go_roundw
            case rel => exact ⟨k + 1, _, _, hlt, by go_num, H8.out.free, ER4.out, EL4.out⟩
            case measure => simp [intOf]; omega
      · have ER5 : Hid (flatRules ⟨tm, at_, op, cl, ls⟩ = rs) := Lib.hid (by rw [HR.out, List.drop_of_length_le (by omega)]; simp)
        have EL5 : Hid (flatLev ⟨tm, at_, op, cl, ls⟩ = lv) := Lib.hid (by rw [HL.out, List.drop_of_length_le (by omega)]; simp [levFrom])
        obtain ⟨v1, v2, hG, hL, h2, hX⟩ := H7.out.2.2.2.2.2
        obtain ⟨A1, c1, e1, _⟩ := h2.1.form
        obtain ⟨A2, c2, e2, _⟩ := h2.2.1.form
        subst e1; subst e2
        have g0 : wo.cell? ⟨E + 1, 0, none⟩ = some (.int .i64 tm) := hG.cell 0
        have g1 : wo.cell? ⟨E + 1, 1, none⟩ = some (.int .i64 1) := hG.cell 1
        have g2 : wo.cell? ⟨E + 1, 2, none⟩ = some (.int .i64 0) := hG.cell 2
        have g3 : wo.cell? ⟨E + 1, 3, none⟩ = some (.slice A1 rs.length c1) := hG.cell 3
        have l0 : wo.cell? ⟨E + 1 + 1, 0, none⟩ = some (.slice A2 lv.length c2) := hL.cell 0
        have r0 : wo.cell? ⟨w.heap.size + 1, 0, none⟩ = some (.int .i64 0) := H7.out.2.2.1.cell 0
        have r1 : wo.cell? ⟨w.heap.size + 1, 1, none⟩ = some (.int .i64 0) := H7.out.2.2.1.cell 1
        have r2 : wo.cell? ⟨w.heap.size + 1, 2, none⟩ = some (.int .i64 0) := H7.out.2.2.1.cell 2
        have r3 : wo.cell? ⟨w.heap.size + 1, 3, none⟩ = some (.slice none 0 0) := H7.out.2.2.1.cell 3
        have f0 := H7.out.2.2.1.frozen 0
        have f1 := H7.out.2.2.1.frozen 1
        have f2 := H7.out.2.2.1.frozen 2
        have f3 := H7.out.2.2.1.frozen 3
        have H2 := Lib.hid h2
        clear hG hL h2 hX
        go_wp2_with fail
        go_region
        all_goals
          have HW := Lib.hid ((((H7.out.2.2.1.set_ 0 (.int .i64 tm)).set_ 1 (.int .i64 1)).set_ 2 (.int .i64 0)).set_ 3 (.slice A1 rs.length c1))
          have HT2 := Lib.hid (((((H2.out.set_ (p := ⟨w.heap.size + 1, 0, none⟩) (fun h => by simp at h; omega) (.int .i64 tm)).set_ (p := ⟨w.heap.size + 1, 1, none⟩) (fun h => by simp at h; omega) (.int .i64 1)).set_ (p := ⟨w.heap.size + 1, 2, none⟩) (fun h => by simp at h; omega) (.int .i64 0)).set_ (p := ⟨w.heap.size + 1, 3, none⟩) (fun h => by simp at h; omega) (.slice A1 rs.length c1)).drew)
          have HBl := Lib.hid (((((H7.out.1.setCell (p := ⟨w.heap.size + 1, 0, none⟩) (by simp) (.int .i64 tm)).setCell (p := ⟨w.heap.size + 1, 1, none⟩) (by simp) (.int .i64 1)).setCell (p := ⟨w.heap.size + 1, 2, none⟩) (by simp) (.int .i64 0)).setCell (p := ⟨w.heap.size + 1, 3, none⟩) (by simp) (.slice A1 rs.length c1)).drew)
          have q0 := HW.out.cell 0
          have q1 := HW.out.cell 1
          have q2 := HW.out.cell 2
          have q3 := HW.out.cell 3
          simp at q0 q1 q2 q3
          clear g0 g1 g2 g3 l0 r0 r1 r2 r3 f0 f1 f2 f3
          go_wp2
          exact bodyPost_ret (v := .tuple #[.agg #[.int .i64 tm, .int .i64 1, .int .i64 0, .slice A1 rs.length c1], .slice A2 lv.length c2]) (by simp [results, Tryd.results113, go_sem, q0, q1, q2, q3]) rfl ⟨_, _, rfl, by rw [ER5.out, EL5.out]; exact HT2.out.rebase (by omega), HBl.out⟩
end Go.Proofs.YtjdojogjogenkaaDoor
