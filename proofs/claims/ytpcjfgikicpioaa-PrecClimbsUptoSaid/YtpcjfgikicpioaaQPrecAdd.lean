/- The closures that append a rule and a number: prec.flat's add and its kin. -/
import Derived.Test.YtpcjfgikicpioaaQp1
import Derived.Deep.RegionLaw
namespace Go.Proofs.Ytpcjfgikicpioaa
open Go.RowKit
set_option linter.unusedVariables false

/-- A grammar's block G and a block L with a row of numbers, both rows of the call's own. X: blocks that neither row lies in. -/
def FlatSt (X S : Nat → Prop) (B G L : Nat) (t n s : Int) (rs : List Rule) (ls : List Int) (w : World) : Prop :=
  ∃ v1 v2, Blk' w G 37 #[.int .i64 t, .int .i64 n, .int .i64 s, v1] ∧ Blk' w L 25 #[v2] ∧ Two w S B 71 3 v1 v2 rs ls ∧
    ∀ b, X b → b < w.heap.size ∧ b ≠ G ∧ b ≠ L ∧ v1.ownBlock ≠ some b ∧ v2.ownBlock ≠ some b
theorem FlatSt.below {X S : Nat → Prop} {B G L : Nat} {t n s : Int} {rs : List Rule} {ls : List Int} {w w' : World} (h : FlatSt X S B G L t n s rs ls w) (hb : Below w.heap.size w w') : FlatSt X S B G L t n s rs ls w' := by
  obtain ⟨v1, v2, h1, h2, h3, h4⟩ := h
  exact ⟨v1, v2, h1.below hb h1.lt, h2.below hb h2.lt, h3.below hb (Nat.le_refl _), fun b hb' => ⟨Nat.lt_of_lt_of_le (h4 b hb').1 hb.size, (h4 b hb').2⟩⟩
/-- A block that is made now is in neither row. -/
theorem FlatSt.guard {X S : Nat → Prop} {B G L : Nat} {t n s : Int} {rs : List Rule} {ls : List Int} {w : World} (h : FlatSt X S B G L t n s rs ls w) (o : Obj) : FlatSt (fun b => b = w.heap.size) S B G L t n s rs ls (w.alloc o) := by
  obtain ⟨v1, v2, h1, h2, h3, h4⟩ := h.below ((Below.refl w.heap.size w).alloc (Nat.le_refl _) o)
  obtain ⟨u1, u2, q1, q2, q3, q4⟩ := h
  have e1 : u1 = v1 := by
    have e := q1.alloc o
    unfold Blk' at e h1
    rw [e] at h1
    simpa using h1
  have e2 : u2 = v2 := by
    have e := q2.alloc o
    unfold Blk' at e h2
    rw [e] at h2
    simpa using h2
  subst e1; subst e2
  refine ⟨u1, u2, h1, h2, h3, fun b hb => ?_⟩
  subst hb
  exact ⟨by simp, fun e => by have := q1.lt; omega, fun e => by have := q2.lt; omega, fun e => by have := (q3.1.block _ e).2; omega, fun e => by have := (q3.2.1.block _ e).2; omega⟩
theorem FlatSt.free {X S : Nat → Prop} {B G L : Nat} {t n s : Int} {rs : List Rule} {ls : List Int} {w : World} (h : FlatSt X S B G L t n s rs ls w) : FlatSt (fun _ => False) S B G L t n s rs ls w := by
  obtain ⟨v1, v2, h1, h2, h3, h4⟩ := h
  exact ⟨v1, v2, h1, h2, h3, fun b hb => hb.elim⟩

theorem flat_done {X S : Nat → Prop} {B0 B G L : Nat} {t n s : Int} {rs : List Rule} {ls : List Int} {w0 w : World} {v1 v2 u1 u2 : Value} (hG : B0 ≤ G ∧ G < B ∧ B0 ≤ L ∧ L < B ∧ G ≠ L ∧ B ≤ w0.heap.size ∧ ¬ S G ∧ ¬ S L)
    (h2 : Two w S B 3 71 v2 v1 ls rs) (hb1 : Blk' w G 37 #[.int .i64 t, .int .i64 n, .int .i64 s, u1]) (hb2 : Blk' w L 25 #[u2])
    (hX : ∀ b, X b → b < w.heap.size ∧ b ≠ G ∧ b ≠ L ∧ v1.ownBlock ≠ some b ∧ v2.ownBlock ≠ some b) :
    FlatSt X S B G L t n s rs ls ((w.setCell ⟨G, 3, none⟩ v1).setCell ⟨L, 0, none⟩ v2) := by
  obtain ⟨q1, q2, q3, q4, q5, q6, q7, q8⟩ := hG
  refine ⟨v1, v2, (hb1.set_ 3 v1).far (p := ⟨L, 0, none⟩) q5 v2, (hb2.far (p := ⟨G, 3, none⟩) (Ne.symm q5) v1).set_ 0 v2, (h2.swap.set_ (p := ⟨G, 3, none⟩) (fun h => ?_) v1).set_ (p := ⟨L, 0, none⟩) (fun h => ?_) v2, fun b hb => ⟨by simpa [World.setCell] using (hX b hb).1, (hX b hb).2⟩⟩
  · rcases h with h | h
    · exact q7 h
    · dsimp only at h; omega
  · rcases h with h | h
    · exact q8 h
    · dsimp only at h; omega

set_option maxRecDepth 100000 in
set_option maxHeartbeats 8000000 in
theorem flatAdd_any (lv : Int) (right : List Sym) (A : Option Addr) (c B0 B G L : Nat) (X S : Nat → Prop) (t n s : Int) (rs : List Rule) (ls : List Int) (w0 w : World)
    (hG : B0 ≤ G ∧ G < B ∧ B0 ≤ L ∧ L < B ∧ G ≠ L ∧ B ≤ w0.heap.size ∧ ¬ S G ∧ ¬ S L) (hst : FlatSt X S B G L t n s rs ls w0) (hb : Below w0.heap.size w0 w) (hr : Els w (fun b => w0.heap.size ≤ b ∧ b < w.heap.size) right A)
    (hc : right.length ≤ c ∧ c ≤ 9223372036854775807) (hI : I64 lv) (hl : rs.length ≤ 1000000 ∧ ls.length ≤ 1000000) :
    Calls Try.prog 46 #[.int .i64 lv, .slice A right.length c, .pointer (some ⟨G, 0, none⟩), .pointer (some ⟨L, 0, none⟩)] w
      fun e w' => e = .returned (.tuple #[]) ∧ FlatSt X S B G L t n s (rs ++ [⟨0, right⟩]) (ls ++ [lv]) w' ∧ Below B0 w w' ∧ ∀ b, X b → w'.heap[b]? = w.heap[b]? := by
  have hst' := hst.below hb
  obtain ⟨v1, v2, hb1, hb2, h2, hX⟩ := hst'
  have g3 : w.cell? ⟨G, 3, none⟩ = some v1 := hb1.cell 3
  have l0 : w.cell? ⟨L, 0, none⟩ = some v2 := hb2.cell 0
  have f3 := hb1.frozen 3
  have fl := hb2.frozen 0
  have H2 := Lib.hid h2
  have hn1 : ∀ k, v1.ownBlock = some k → k < w0.heap.size := by
    obtain ⟨u1, u2, q1, q2, q3, _⟩ := hst
    have e1 := q1.below hb q1.lt
    unfold Blk' at e1 hb1
    rw [hb1] at e1
    simp at e1
    rw [e1]
    exact fun k hk => (q3.1.block k hk).2
  have hn2 : ∀ k, v2.ownBlock = some k → k < w0.heap.size := by
    obtain ⟨u1, u2, q1, q2, q3, _⟩ := hst
    have e1 := q2.below hb q2.lt
    unfold Blk' at e1 hb2
    rw [hb2] at e1
    simp at e1
    rw [e1]
    exact fun k hk => (q3.2.1.block k hk).2
  have hsz := hb.size
  have Hrd : Hid (∀ W, Below w.heap.size w W → Dat.rd W (T2 S B v1 v2 W) (⟨0, right⟩ : Rule) [.int .i64 0, .slice A right.length c]) := Lib.hid fun W hW =>
    ⟨_, rfl, (show I64 0 from ⟨by decide, by decide⟩), Vl.of_slice rfl hc.1 hc.2 ((hr.below hW).keep (fun _ _ _ => rfl) (fun b hb' => ⟨.inr (by omega), fun e => by have := hn1 b e; omega, fun e => by have := hn2 b e; omega, by have := hW.size; omega⟩))⟩
  obtain ⟨A1, c1, e1, _⟩ := h2.1.form
  obtain ⟨A2, c2, e2, _⟩ := h2.2.1.form
  subst e1; subst e2
  have HB := Lib.hid (And.intro hb1 hb2)
  have HX := Lib.hid (And.intro hG (And.intro hl (And.intro hn1 hn2)))
  have HI := Lib.hid hI
  have HX2 := Lib.hid hX
  have hlen1 : rs.length + 1 ≤ 1000001 := by omega
  have hlen2 : ls.length + 1 ≤ 1000001 := by omega
  have hBw : B ≤ w.heap.size := by omega
  have hGw : G < w.heap.size := hb1.lt
  have hLw : L < w.heap.size := hb2.lt
  have hB0 : B0 ≤ G ∧ B0 ≤ L := by omega
  have hB1 : B0 ≤ w.heap.size := by omega
  have hB2 : B0 ≤ B := by omega
  clear hX h2 hst hb hb1 hb2 hG hl hn1 hn2 hI hr hc
  have HN : Hid (some G ≠ (Value.slice A1 rs.length c1).ownBlock ∧ some L ≠ (Value.slice A1 rs.length c1).ownBlock ∧ some G ≠ (Value.slice A2 ls.length c2).ownBlock ∧ some L ≠ (Value.slice A2 ls.length c2).ownBlock ∧ some w.heap.size ≠ (Value.slice A1 rs.length c1).ownBlock ∧ some (w.heap.size + 1) ≠ (Value.slice A1 rs.length c1).ownBlock) :=
    Lib.hid ⟨fun e => by have := (H2.out.1.block G e.symm).1; have := HX.out.1; omega, fun e => by have := (H2.out.1.block L e.symm).1; have := HX.out.1; omega, fun e => by have := (H2.out.2.1.block G e.symm).1; have := HX.out.1; omega, fun e => by have := (H2.out.2.1.block L e.symm).1; have := HX.out.1; omega, fun e => by have := (H2.out.1.block _ e.symm).2; omega, fun e => by have := (H2.out.1.block _ e.symm).2; omega⟩
  go_enter Try.func46, Try.ntmps46
  go_region_law
    (first
    | (refine step_two1 _ (by rfl) _ _ elemRule (by rfl) (by rfl) ((H2.out.alloc _).drew) ⟨0, right⟩ [.int .i64 0, .slice A right.length c] (by rfl) (At.drew (At.new _ _ _)) (Hrd.out _ (((Below.refl _ _).alloc (Nat.le_refl _) _).drew)) (by omega) (by omega) (by simp; omega) ?_
       intro v1' wA hA gA aA
       obtain ⟨A3, k3, e3, _⟩ := hA.1.form; rw [snoc_len] at e3; subst e3
       have bG : Blk' wA G 37 #[.int .i64 t, .int .i64 n, .int .i64 s, .slice A1 rs.length c1] := ((HB.out.1.alloc _).drew).grown gA HN.out.1
       have bL : Blk' wA L 25 #[.slice A2 ls.length c2] := ((HB.out.2.alloc _).drew).grown gA HN.out.2.1
       have l0A : wA.cell? ⟨L, 0, none⟩ = some (.slice A2 ls.length c2) := bL.cell 0
       have lA : L < wA.heap.size := bL.lt
       have hblA : Below B0 w wA := (((Below.refl B0 w).alloc (by omega) _).drew).grown gA (by simp; omega) (fun k hk => by have := (H2.out.1.block k hk).1; omega)
       have zA : w.heap.size + 1 ≤ wA.heap.size := by have := gA.size; simp at this; omega
       have xA : ∀ b, X b → wA.heap[b]? = w.heap[b]? ∧ (Value.slice A3 (rs.length + 1) k3).ownBlock ≠ some b := fun b hb => ⟨(gA.block b (Nat.lt_of_lt_of_le (HX2.out b hb).1 (((Below.refl _ _).alloc (Nat.le_refl _) _).drew : Below w.heap.size w _).size) (fun e => (HX2.out b hb).2.2.2.1 e.symm)).trans ((((Below.refl _ _).alloc (Nat.le_refl _) _).drew : Below w.heap.size w _).block b (HX2.out b hb).1), fun e => (by
         rcases aA with q | q
         · exact (HX2.out b hb).2.2.2.1 (q ▸ e)
         · rw [e] at q; injection q with q; have := (HX2.out b hb).1; simp at q; omega)⟩
       have HxA := Lib.hid xA
       have HA := Lib.hid (And.intro hA (And.intro hblA (And.intro bG bL)))
       clear hA gA aA bG bL hblA xA)
    | (refine step_two1 _ (by rfl) _ _ elemRule (by rfl) (by rfl) (((H2.out.alloc _).alloc _).drew) ⟨0, right⟩ [.int .i64 0, .slice A right.length c] (by rfl) (At.drew (At.alloc (At.new _ _ _) (by simp) _)) (Hrd.out _ ((((Below.refl _ _).alloc (Nat.le_refl _) _).alloc (by simp) _).drew)) (by omega) (by omega) (by simp; omega) ?_
       intro v1' wA hA gA aA
       obtain ⟨A3, k3, e3, _⟩ := hA.1.form; rw [snoc_len] at e3; subst e3
       have bG : Blk' wA G 37 #[.int .i64 t, .int .i64 n, .int .i64 s, .slice A1 rs.length c1] := (((HB.out.1.alloc _).alloc _).drew).grown gA HN.out.1
       have bL : Blk' wA L 25 #[.slice A2 ls.length c2] := (((HB.out.2.alloc _).alloc _).drew).grown gA HN.out.2.1
       have l0A : wA.cell? ⟨L, 0, none⟩ = some (.slice A2 ls.length c2) := bL.cell 0
       have lA : L < wA.heap.size := bL.lt
       have hblA : Below B0 w wA := ((((Below.refl B0 w).alloc (by omega) _).alloc (by simp; omega) _).drew).grown gA (by simp; omega) (fun k hk => by have := (H2.out.1.block k hk).1; omega)
       have zA : w.heap.size + 1 ≤ wA.heap.size := by have := gA.size; simp at this; omega
       have xA : ∀ b, X b → wA.heap[b]? = w.heap[b]? ∧ (Value.slice A3 (rs.length + 1) k3).ownBlock ≠ some b := fun b hb => ⟨(gA.block b (Nat.lt_of_lt_of_le (HX2.out b hb).1 ((((Below.refl _ _).alloc (Nat.le_refl _) _).alloc (by simp) _).drew : Below w.heap.size w _).size) (fun e => (HX2.out b hb).2.2.2.1 e.symm)).trans (((((Below.refl _ _).alloc (Nat.le_refl _) _).alloc (by simp) _).drew : Below w.heap.size w _).block b (HX2.out b hb).1), fun e => (by
         rcases aA with q | q
         · exact (HX2.out b hb).2.2.2.1 (q ▸ e)
         · rw [e] at q; injection q with q; have := (HX2.out b hb).1; simp at q; omega)⟩
       have HxA := Lib.hid xA
       have HA := Lib.hid (And.intro hA (And.intro hblA (And.intro bG bL)))
       have Hat1 := Lib.hid (At.grown (At.drew (At.new1 w [.int .i64 lv] 3 _)) (by simp) gA HN.out.2.2.2.2.2)
       clear hA gA aA bG bL hblA xA)
    | (refine step_two1 _ (by rfl) _ _ elemRule (by rfl) (by rfl) (((H2.out.alloc _).alloc _).drew) ⟨0, right⟩ [.int .i64 0, .slice A right.length c] (by rfl) (At.drew (At.new1 _ _ _ _)) (Hrd.out _ ((((Below.refl _ _).alloc (Nat.le_refl _) _).alloc (by simp) _).drew)) (by omega) (by omega) (by simp; omega) ?_
       intro v1' wA hA gA aA
       obtain ⟨A3, k3, e3, _⟩ := hA.1.form; rw [snoc_len] at e3; subst e3
       have bG : Blk' wA G 37 #[.int .i64 t, .int .i64 n, .int .i64 s, .slice A1 rs.length c1] := (((HB.out.1.alloc _).alloc _).drew).grown gA HN.out.1
       have bL : Blk' wA L 25 #[.slice A2 ls.length c2] := (((HB.out.2.alloc _).alloc _).drew).grown gA HN.out.2.1
       have l0A : wA.cell? ⟨L, 0, none⟩ = some (.slice A2 ls.length c2) := bL.cell 0
       have lA : L < wA.heap.size := bL.lt
       have hblA : Below B0 w wA := ((((Below.refl B0 w).alloc (by omega) _).alloc (by simp; omega) _).drew).grown gA (by simp; omega) (fun k hk => by have := (H2.out.1.block k hk).1; omega)
       have zA : w.heap.size + 1 ≤ wA.heap.size := by have := gA.size; simp at this; omega
       have xA : ∀ b, X b → wA.heap[b]? = w.heap[b]? ∧ (Value.slice A3 (rs.length + 1) k3).ownBlock ≠ some b := fun b hb => ⟨(gA.block b (Nat.lt_of_lt_of_le (HX2.out b hb).1 ((((Below.refl _ _).alloc (Nat.le_refl _) _).alloc (by simp) _).drew : Below w.heap.size w _).size) (fun e => (HX2.out b hb).2.2.2.1 e.symm)).trans (((((Below.refl _ _).alloc (Nat.le_refl _) _).alloc (by simp) _).drew : Below w.heap.size w _).block b (HX2.out b hb).1), fun e => (by
         rcases aA with q | q
         · exact (HX2.out b hb).2.2.2.1 (q ▸ e)
         · rw [e] at q; injection q with q; have := (HX2.out b hb).1; simp at q; omega)⟩
       have HxA := Lib.hid xA
       have HA := Lib.hid (And.intro hA (And.intro hblA (And.intro bG bL)))
       have Hat2 := Lib.hid (At.grown (At.drew (At.alloc (At.new w [.int .i64 lv] 3) (by simp) _)) (by simp) gA HN.out.2.2.2.2.1)
       clear hA gA aA bG bL hblA xA)
    | (refine step_two1 _ (by rfl) _ _ elemInt (by rfl) (by rfl) ((HA.out.1.alloc _).swap) lv [.int .i64 lv] (by rfl) (At.new _ _ _) ⟨rfl, HI.out⟩ (by omega) (by omega) (by first | omega | (simp; omega)) ?_
       intro v2' wB hB gB aB
       obtain ⟨A4, k4, e4, _⟩ := hB.1.form; rw [snoc_len] at e4; subst e4
       have bG : Blk' wB G 37 #[.int .i64 t, .int .i64 n, .int .i64 s, .slice A1 rs.length c1] := (HA.out.2.2.1.alloc _).grown gB HN.out.2.2.1
       have bL : Blk' wB L 25 #[.slice A2 ls.length c2] := (HA.out.2.2.2.alloc _).grown gB HN.out.2.2.2.1
       have fGB := bG.frozen 3
       have fLB := bL.frozen 0
       have gGB : wB.cell? ⟨G, 3, none⟩ = some (.slice A1 rs.length c1) := bG.cell 3
       have gLB : wB.cell? ⟨L, 0, none⟩ = some (.slice A2 ls.length c2) := bL.cell 0
       have hbl : Below B0 w wB := (HA.out.2.1.alloc (by omega) _).grown gB (by first | omega | (simp; omega)) (fun k hk => by have := (HA.out.1.2.1.block k hk).1; omega)
       have xB : ∀ b, X b → wB.heap[b]? = w.heap[b]? ∧ (Value.slice A4 (ls.length + 1) k4).ownBlock ≠ some b := fun b hb => ⟨(gB.block b (by first | (have := (HX2.out b hb).1; omega) | (have := (HX2.out b hb).1; simp; omega)) (fun e => (HX2.out b hb).2.2.2.2 e.symm)).trans ((Below.heap_alloc _ _ _ (by have := (HX2.out b hb).1; omega)).trans (HxA.out b hb).1), fun e => (by
         rcases aB with q | q
         · exact (HX2.out b hb).2.2.2.2 (q ▸ e)
         · rw [e] at q; injection q with q; have := (HX2.out b hb).1; first | omega | (simp at q; omega))⟩
       have HxB := Lib.hid xB
       have HZ := Lib.hid (And.intro hB (And.intro bG (And.intro bL hbl)))
       clear hB gB aB bG bL hbl xB)
    | (refine step_two1 _ (by rfl) _ _ elemInt (by rfl) (by rfl) (HA.out.1.swap) lv [.int .i64 lv] (by rfl) (Hat1.out) ⟨rfl, HI.out⟩ (by omega) (by omega) (by first | omega | (simp; omega)) ?_
       intro v2' wB hB gB aB
       obtain ⟨A4, k4, e4, _⟩ := hB.1.form; rw [snoc_len] at e4; subst e4
       have bG : Blk' wB G 37 #[.int .i64 t, .int .i64 n, .int .i64 s, .slice A1 rs.length c1] := HA.out.2.2.1.grown gB HN.out.2.2.1
       have bL : Blk' wB L 25 #[.slice A2 ls.length c2] := HA.out.2.2.2.grown gB HN.out.2.2.2.1
       have fGB := bG.frozen 3
       have fLB := bL.frozen 0
       have gGB : wB.cell? ⟨G, 3, none⟩ = some (.slice A1 rs.length c1) := bG.cell 3
       have gLB : wB.cell? ⟨L, 0, none⟩ = some (.slice A2 ls.length c2) := bL.cell 0
       have hbl : Below B0 w wB := HA.out.2.1.grown gB (by first | omega | (simp; omega)) (fun k hk => by have := (HA.out.1.2.1.block k hk).1; omega)
       have xB : ∀ b, X b → wB.heap[b]? = w.heap[b]? ∧ (Value.slice A4 (ls.length + 1) k4).ownBlock ≠ some b := fun b hb => ⟨(gB.block b (by first | (have := (HX2.out b hb).1; omega) | (have := (HX2.out b hb).1; simp; omega)) (fun e => (HX2.out b hb).2.2.2.2 e.symm)).trans ((HxA.out b hb).1), fun e => (by
         rcases aB with q | q
         · exact (HX2.out b hb).2.2.2.2 (q ▸ e)
         · rw [e] at q; injection q with q; have := (HX2.out b hb).1; first | omega | (simp at q; omega))⟩
       have HxB := Lib.hid xB
       have HZ := Lib.hid (And.intro hB (And.intro bG (And.intro bL hbl)))
       clear hB gB aB bG bL hbl xB)
    | (refine step_two1 _ (by rfl) _ _ elemInt (by rfl) (by rfl) (HA.out.1.swap) lv [.int .i64 lv] (by rfl) (Hat2.out) ⟨rfl, HI.out⟩ (by omega) (by omega) (by first | omega | (simp; omega)) ?_
       intro v2' wB hB gB aB
       obtain ⟨A4, k4, e4, _⟩ := hB.1.form; rw [snoc_len] at e4; subst e4
       have bG : Blk' wB G 37 #[.int .i64 t, .int .i64 n, .int .i64 s, .slice A1 rs.length c1] := HA.out.2.2.1.grown gB HN.out.2.2.1
       have bL : Blk' wB L 25 #[.slice A2 ls.length c2] := HA.out.2.2.2.grown gB HN.out.2.2.2.1
       have fGB := bG.frozen 3
       have fLB := bL.frozen 0
       have gGB : wB.cell? ⟨G, 3, none⟩ = some (.slice A1 rs.length c1) := bG.cell 3
       have gLB : wB.cell? ⟨L, 0, none⟩ = some (.slice A2 ls.length c2) := bL.cell 0
       have hbl : Below B0 w wB := HA.out.2.1.grown gB (by first | omega | (simp; omega)) (fun k hk => by have := (HA.out.1.2.1.block k hk).1; omega)
       have xB : ∀ b, X b → wB.heap[b]? = w.heap[b]? ∧ (Value.slice A4 (ls.length + 1) k4).ownBlock ≠ some b := fun b hb => ⟨(gB.block b (by first | (have := (HX2.out b hb).1; omega) | (have := (HX2.out b hb).1; simp; omega)) (fun e => (HX2.out b hb).2.2.2.2 e.symm)).trans ((HxA.out b hb).1), fun e => (by
         rcases aB with q | q
         · exact (HX2.out b hb).2.2.2.2 (q ▸ e)
         · rw [e] at q; injection q with q; have := (HX2.out b hb).1; first | omega | (simp at q; omega))⟩
       have HxB := Lib.hid xB
       have HZ := Lib.hid (And.intro hB (And.intro bG (And.intro bL hbl)))
       clear hB gB aB bG bL hbl xB))
  all_goals
    clear g3 l0 f3 fl
    go_end0
    exact ⟨rfl, flat_done HX.out.1 HZ.out.1 HZ.out.2.1 HZ.out.2.2.1 (fun b hb => ⟨Nat.lt_of_lt_of_le (HX2.out b hb).1 HZ.out.2.2.2.size, (HX2.out b hb).2.1, (HX2.out b hb).2.2.1, (HxA.out b hb).2, (HxB.out b hb).2⟩), (HZ.out.2.2.2.setCell hB0.1 _).setCell hB0.2 _, fun b hb => ((Below.heap_setCell _ _ _ _ (HX2.out b hb).2.2.1).trans (Below.heap_setCell _ _ _ _ (HX2.out b hb).2.1)).trans (HxB.out b hb).1⟩
end Go.Proofs.Ytpcjfgikicpioaa
