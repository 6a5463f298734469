/- Contracts of this proof, of several texts joined: PrecAdd2, MkWord. -/
import Derived.Test.YtjdojogjogenkaaDoorQw2
import Derived.Test.YtjdojogjogenkaaDoorQw1
import Derived.Test.YtjdojogjogenkaaDoorQp1
import Derived.Test.YtjdojogjogenkaaDoorQp2
/- The closure parlance/prec.layered$1: it appends a rule and a number. -/
namespace Go.Proofs.YtjdojogjogenkaaDoor
open Go.RowKit
set_option linter.unusedVariables false

set_option maxRecDepth 100000 in
set_option maxHeartbeats 8000000 in
theorem layAdd_any (lf lv : Int) (hlf : I64 lf) (right : List Sym) (A : Option Addr) (c B0 B G L : Nat) (X S : Nat → Prop) (t n s : Int) (rs : List Rule) (ls : List Int) (w0 w : World)
    (hG : B0 ≤ G ∧ G < B ∧ B0 ≤ L ∧ L < B ∧ G ≠ L ∧ B ≤ w0.heap.size ∧ ¬ S G ∧ ¬ S L) (hst : FlatSt X S B G L t n s rs ls w0) (hb : Below w0.heap.size w0 w) (hr : Els w (fun b => w0.heap.size ≤ b ∧ b < w.heap.size) right A)
    (hc : right.length ≤ c ∧ c ≤ 9223372036854775807) (hI : I64 lv) (hl : rs.length ≤ 1000000 ∧ ls.length ≤ 1000000) :
    Calls Tryd.prog 111 #[.int .i64 lf, .int .i64 lv, .slice A right.length c, .pointer (some ⟨G, 0, none⟩), .pointer (some ⟨L, 0, none⟩)] w
      fun e w' => e = .returned (.tuple #[]) ∧ FlatSt X S B G L t n s (rs ++ [⟨lf, right⟩]) (ls ++ [lv]) w' ∧ Below B0 w w' ∧ ∀ b, X b → w'.heap[b]? = w.heap[b]? := by
  have hst' := hst.below hb
  obtain ⟨v1, v2, hb1, hb2, h2, hX⟩ := hst'
  have g3 : w.cell? ⟨G, 3, none⟩ = some v1 := hb1.cell 3
  have l0 : w.cell? ⟨L, 0, none⟩ = some v2 := hb2.cell 0
  have f3 := hb1.frozen 3
  have fl := hb2.frozen 0
  have H2 := Lib.hid h2
  have hn1 : ∀ k, v1.ownBlock = some k → k < w0.heap.size := by
    obtain ⟨u1, u2, q1, q2, q3, _⟩ := hst
    have e1 := q1.below hb q1.lt
    unfold Blk' at e1 hb1
    rw [hb1] at e1
    simp at e1
    rw [e1]
    exact fun k hk => (q3.1.block k hk).2
  have hn2 : ∀ k, v2.ownBlock = some k → k < w0.heap.size := by
    obtain ⟨u1, u2, q1, q2, q3, _⟩ := hst
    have e1 := q2.below hb q2.lt
    unfold Blk' at e1 hb2
    rw [hb2] at e1
    simp at e1
    rw [e1]
    exact fun k hk => (q3.2.1.block k hk).2
  have hsz := hb.size
  have Hrd : Hid (∀ W, Below w.heap.size w W → Dat.rd W (T2 S B v1 v2 W) (⟨lf, right⟩ : Rule) [.int .i64 lf, .slice A right.length c]) := Lib.hid fun W hW =>
    ⟨_, rfl, hlf, Vl.of_slice rfl hc.1 hc.2 ((hr.below hW).keep (fun _ _ _ => rfl) (fun b hb' => ⟨.inr (by omega), fun e => by have := hn1 b e; omega, fun e => by have := hn2 b e; omega, by have := hW.size; omega⟩))⟩
  obtain ⟨A1, c1, e1, _⟩ := h2.1.form
  obtain ⟨A2, c2, e2, _⟩ := h2.2.1.form
  subst e1; subst e2
  have HB := Lib.hid (And.intro hb1 hb2)
  have HX := Lib.hid (And.intro hG (And.intro hl (And.intro hn1 hn2)))
  have HI := Lib.hid hI
  have HX2 := Lib.hid hX
  have hlen1 : rs.length + 1 ≤ 1000001 := by omega
  have hlen2 : ls.length + 1 ≤ 1000001 := by omega
  have hBw : B ≤ w.heap.size := by omega
  have hGw : G < w.heap.size := hb1.lt
  have hLw : L < w.heap.size := hb2.lt
  have hB0 : B0 ≤ G ∧ B0 ≤ L := by omega
  have hB1 : B0 ≤ w.heap.size := by omega
  have hB2 : B0 ≤ B := by omega
  clear hX h2 hst hb hb1 hb2 hG hl hn1 hn2 hI hr hc
  have HN : Hid (some G ≠ (Value.slice A1 rs.length c1).ownBlock ∧ some L ≠ (Value.slice A1 rs.length c1).ownBlock ∧ some G ≠ (Value.slice A2 ls.length c2).ownBlock ∧ some L ≠ (Value.slice A2 ls.length c2).ownBlock ∧ some w.heap.size ≠ (Value.slice A1 rs.length c1).ownBlock ∧ some (w.heap.size + 1) ≠ (Value.slice A1 rs.length c1).ownBlock) :=
    Lib.hid ⟨fun e => by have := (H2.out.1.block G e.symm).1; have := HX.out.1; omega, fun e => by have := (H2.out.1.block L e.symm).1; have := HX.out.1; omega, fun e => by have := (H2.out.2.1.block G e.symm).1; have := HX.out.1; omega, fun e => by have := (H2.out.2.1.block L e.symm).1; have := HX.out.1; omega, fun e => by have := (H2.out.1.block _ e.symm).2; omega, fun e => by have := (H2.out.1.block _ e.symm).2; omega⟩
  go_enter Tryd.func111, Tryd.ntmps111
  go_region_law
    (first
    | (refine step_two1 _ (by rfl) _ _ elemRule (by rfl) (by rfl) ((H2.out.alloc _).drew) ⟨lf, right⟩ [.int .i64 lf, .slice A right.length c] (by rfl) (At.drew (At.new _ _ _)) (Hrd.out _ (((Below.refl _ _).alloc (Nat.le_refl _) _).drew)) (by omega) (by omega) (by simp; omega) ?_
       intro v1' wA hA gA aA
       obtain ⟨A3, k3, e3, _⟩ := hA.1.form; rw [snoc_len] at e3; subst e3
       have bG : Blk' wA G 24 #[.int .i64 t, .int .i64 n, .int .i64 s, .slice A1 rs.length c1] := ((HB.out.1.alloc _).drew).grown gA HN.out.1
       have bL : Blk' wA L 33 #[.slice A2 ls.length c2] := ((HB.out.2.alloc _).drew).grown gA HN.out.2.1
       have l0A : wA.cell? ⟨L, 0, none⟩ = some (.slice A2 ls.length c2) := bL.cell 0
       have lA : L < wA.heap.size := bL.lt
       have hblA : Below B0 w wA := (((Below.refl B0 w).alloc (by omega) _).drew).grown gA (by simp; omega) (fun k hk => by have := (H2.out.1.block k hk).1; omega)
       have zA : w.heap.size + 1 ≤ wA.heap.size := by have := gA.size; simp at this; omega
       have xA : ∀ b, X b → wA.heap[b]? = w.heap[b]? ∧ (Value.slice A3 (rs.length + 1) k3).ownBlock ≠ some b := fun b hb => ⟨(gA.block b (Nat.lt_of_lt_of_le (HX2.out b hb).1 (((Below.refl _ _).alloc (Nat.le_refl _) _).drew : Below w.heap.size w _).size) (fun e => (HX2.out b hb).2.2.2.1 e.symm)).trans ((((Below.refl _ _).alloc (Nat.le_refl _) _).drew : Below w.heap.size w _).block b (HX2.out b hb).1), fun e => (by
         rcases aA with q | q
         · exact (HX2.out b hb).2.2.2.1 (q ▸ e)
         · rw [e] at q; injection q with q; have := (HX2.out b hb).1; simp at q; omega)⟩
       have HxA := Lib.hid xA
       have HA := Lib.hid (And.intro hA (And.intro hblA (And.intro bG bL)))
       clear hA gA aA bG bL hblA xA)
    | (refine step_two1 _ (by rfl) _ _ elemRule (by rfl) (by rfl) (((H2.out.alloc _).alloc _).drew) ⟨lf, right⟩ [.int .i64 lf, .slice A right.length c] (by rfl) (At.drew (At.alloc (At.new _ _ _) (by simp) _)) (Hrd.out _ ((((Below.refl _ _).alloc (Nat.le_refl _) _).alloc (by simp) _).drew)) (by omega) (by omega) (by simp; omega) ?_
       intro v1' wA hA gA aA
       obtain ⟨A3, k3, e3, _⟩ := hA.1.form; rw [snoc_len] at e3; subst e3
       have bG : Blk' wA G 24 #[.int .i64 t, .int .i64 n, .int .i64 s, .slice A1 rs.length c1] := (((HB.out.1.alloc _).alloc _).drew).grown gA HN.out.1
       have bL : Blk' wA L 33 #[.slice A2 ls.length c2] := (((HB.out.2.alloc _).alloc _).drew).grown gA HN.out.2.1
       have l0A : wA.cell? ⟨L, 0, none⟩ = some (.slice A2 ls.length c2) := bL.cell 0
       have lA : L < wA.heap.size := bL.lt
       have hblA : Below B0 w wA := ((((Below.refl B0 w).alloc (by omega) _).alloc (by simp; omega) _).drew).grown gA (by simp; omega) (fun k hk => by have := (H2.out.1.block k hk).1; omega)
       have zA : w.heap.size + 1 ≤ wA.heap.size := by have := gA.size; simp at this; omega
       have xA : ∀ b, X b → wA.heap[b]? = w.heap[b]? ∧ (Value.slice A3 (rs.length + 1) k3).ownBlock ≠ some b := fun b hb => ⟨(gA.block b (Nat.lt_of_lt_of_le (HX2.out b hb).1 ((((Below.refl _ _).alloc (Nat.le_refl _) _).alloc (by simp) _).drew : Below w.heap.size w _).size) (fun e => (HX2.out b hb).2.2.2.1 e.symm)).trans (((((Below.refl _ _).alloc (Nat.le_refl _) _).alloc (by simp) _).drew : Below w.heap.size w _).block b (HX2.out b hb).1), fun e => (by
         rcases aA with q | q
         · exact (HX2.out b hb).2.2.2.1 (q ▸ e)
         · rw [e] at q; injection q with q; have := (HX2.out b hb).1; simp at q; omega)⟩
       have HxA := Lib.hid xA
       have HA := Lib.hid (And.intro hA (And.intro hblA (And.intro bG bL)))
       have Hat1 := Lib.hid (At.grown (At.drew (At.new1 w [.int .i64 lv] 3 _)) (by simp) gA HN.out.2.2.2.2.2)
       clear hA gA aA bG bL hblA xA)
    | (refine step_two1 _ (by rfl) _ _ elemRule (by rfl) (by rfl) (((H2.out.alloc _).alloc _).drew) ⟨lf, right⟩ [.int .i64 lf, .slice A right.length c] (by rfl) (At.drew (At.new1 _ _ _ _)) (Hrd.out _ ((((Below.refl _ _).alloc (Nat.le_refl _) _).alloc (by simp) _).drew)) (by omega) (by omega) (by simp; omega) ?_
       intro v1' wA hA gA aA
       obtain ⟨A3, k3, e3, _⟩ := hA.1.form; rw [snoc_len] at e3; subst e3
       have bG : Blk' wA G 24 #[.int .i64 t, .int .i64 n, .int .i64 s, .slice A1 rs.length c1] := (((HB.out.1.alloc _).alloc _).drew).grown gA HN.out.1
       have bL : Blk' wA L 33 #[.slice A2 ls.length c2] := (((HB.out.2.alloc _).alloc _).drew).grown gA HN.out.2.1
       have l0A : wA.cell? ⟨L, 0, none⟩ = some (.slice A2 ls.length c2) := bL.cell 0
       have lA : L < wA.heap.size := bL.lt
       have hblA : Below B0 w wA := ((((Below.refl B0 w).alloc (by omega) _).alloc (by simp; omega) _).drew).grown gA (by simp; omega) (fun k hk => by have := (H2.out.1.block k hk).1; omega)
       have zA : w.heap.size + 1 ≤ wA.heap.size := by have := gA.size; simp at this; omega
       have xA : ∀ b, X b → wA.heap[b]? = w.heap[b]? ∧ (Value.slice A3 (rs.length + 1) k3).ownBlock ≠ some b := fun b hb => ⟨(gA.block b (Nat.lt_of_lt_of_le (HX2.out b hb).1 ((((Below.refl _ _).alloc (Nat.le_refl _) _).alloc (by simp) _).drew : Below w.heap.size w _).size) (fun e => (HX2.out b hb).2.2.2.1 e.symm)).trans (((((Below.refl _ _).alloc (Nat.le_refl _) _).alloc (by simp) _).drew : Below w.heap.size w _).block b (HX2.out b hb).1), fun e => (by
         rcases aA with q | q
         · exact (HX2.out b hb).2.2.2.1 (q ▸ e)
         · rw [e] at q; injection q with q; have := (HX2.out b hb).1; simp at q; omega)⟩
       have HxA := Lib.hid xA
       have HA := Lib.hid (And.intro hA (And.intro hblA (And.intro bG bL)))
       have Hat2 := Lib.hid (At.grown (At.drew (At.alloc (At.new w [.int .i64 lv] 3) (by simp) _)) (by simp) gA HN.out.2.2.2.2.1)
       clear hA gA aA bG bL hblA xA)
    | (refine step_two1 _ (by rfl) _ _ elemInt (by rfl) (by rfl) ((HA.out.1.alloc _).swap) lv [.int .i64 lv] (by rfl) (At.new _ _ _) ⟨rfl, HI.out⟩ (by omega) (by omega) (by first | omega | (simp; omega)) ?_
       intro v2' wB hB gB aB
       obtain ⟨A4, k4, e4, _⟩ := hB.1.form; rw [snoc_len] at e4; subst e4
       have bG : Blk' wB G 24 #[.int .i64 t, .int .i64 n, .int .i64 s, .slice A1 rs.length c1] := (HA.out.2.2.1.alloc _).grown gB HN.out.2.2.1
       have bL : Blk' wB L 33 #[.slice A2 ls.length c2] := (HA.out.2.2.2.alloc _).grown gB HN.out.2.2.2.1
       have fGB := bG.frozen 3
       have fLB := bL.frozen 0
       have gGB : wB.cell? ⟨G, 3, none⟩ = some (.slice A1 rs.length c1) := bG.cell 3
       have gLB : wB.cell? ⟨L, 0, none⟩ = some (.slice A2 ls.length c2) := bL.cell 0
       have hbl : Below B0 w wB := (HA.out.2.1.alloc (by omega) _).grown gB (by first | omega | (simp; omega)) (fun k hk => by have := (HA.out.1.2.1.block k hk).1; omega)
       have xB : ∀ b, X b → wB.heap[b]? = w.heap[b]? ∧ (Value.slice A4 (ls.length + 1) k4).ownBlock ≠ some b := fun b hb => ⟨(gB.block b (by first | (have := (HX2.out b hb).1; omega) | (have := (HX2.out b hb).1; simp; omega)) (fun e => (HX2.out b hb).2.2.2.2 e.symm)).trans ((Below.heap_alloc _ _ _ (by have := (HX2.out b hb).1; omega)).trans (HxA.out b hb).1), fun e => (by
         rcases aB with q | q
         · exact (HX2.out b hb).2.2.2.2 (q ▸ e)
         · rw [e] at q; injection q with q; have := (HX2.out b hb).1; first | omega | (simp at q; omega))⟩
       have HxB := Lib.hid xB
       have HZ := Lib.hid (And.intro hB (And.intro bG (And.intro bL hbl)))
       clear hB gB aB bG bL hbl xB)
    | (refine step_two1 _ (by rfl) _ _ elemInt (by rfl) (by rfl) (HA.out.1.swap) lv [.int .i64 lv] (by rfl) (Hat1.out) ⟨rfl, HI.out⟩ (by omega) (by omega) (by first | omega | (simp; omega)) ?_
       intro v2' wB hB gB aB
       obtain ⟨A4, k4, e4, _⟩ := hB.1.form; rw [snoc_len] at e4; subst e4
       have bG : Blk' wB G 24 #[.int .i64 t, .int .i64 n, .int .i64 s, .slice A1 rs.length c1] := HA.out.2.2.1.grown gB HN.out.2.2.1
       have bL : Blk' wB L 33 #[.slice A2 ls.length c2] := HA.out.2.2.2.grown gB HN.out.2.2.2.1
       have fGB := bG.frozen 3
       have fLB := bL.frozen 0
       have gGB : wB.cell? ⟨G, 3, none⟩ = some (.slice A1 rs.length c1) := bG.cell 3
       have gLB : wB.cell? ⟨L, 0, none⟩ = some (.slice A2 ls.length c2) := bL.cell 0
       have hbl : Below B0 w wB := HA.out.2.1.grown gB (by first | omega | (simp; omega)) (fun k hk => by have := (HA.out.1.2.1.block k hk).1; omega)
       have xB : ∀ b, X b → wB.heap[b]? = w.heap[b]? ∧ (Value.slice A4 (ls.length + 1) k4).ownBlock ≠ some b := fun b hb => ⟨(gB.block b (by first | (have := (HX2.out b hb).1; omega) | (have := (HX2.out b hb).1; simp; omega)) (fun e => (HX2.out b hb).2.2.2.2 e.symm)).trans ((HxA.out b hb).1), fun e => (by
         rcases aB with q | q
         · exact (HX2.out b hb).2.2.2.2 (q ▸ e)
         · rw [e] at q; injection q with q; have := (HX2.out b hb).1; first | omega | (simp at q; omega))⟩
       have HxB := Lib.hid xB
       have HZ := Lib.hid (And.intro hB (And.intro bG (And.intro bL hbl)))
       clear hB gB aB bG bL hbl xB)
    | (refine step_two1 _ (by rfl) _ _ elemInt (by rfl) (by rfl) (HA.out.1.swap) lv [.int .i64 lv] (by rfl) (Hat2.out) ⟨rfl, HI.out⟩ (by omega) (by omega) (by first | omega | (simp; omega)) ?_
       intro v2' wB hB gB aB
       obtain ⟨A4, k4, e4, _⟩ := hB.1.form; rw [snoc_len] at e4; subst e4
       have bG : Blk' wB G 24 #[.int .i64 t, .int .i64 n, .int .i64 s, .slice A1 rs.length c1] := HA.out.2.2.1.grown gB HN.out.2.2.1
       have bL : Blk' wB L 33 #[.slice A2 ls.length c2] := HA.out.2.2.2.grown gB HN.out.2.2.2.1
       have fGB := bG.frozen 3
       have fLB := bL.frozen 0
       have gGB : wB.cell? ⟨G, 3, none⟩ = some (.slice A1 rs.length c1) := bG.cell 3
       have gLB : wB.cell? ⟨L, 0, none⟩ = some (.slice A2 ls.length c2) := bL.cell 0
       have hbl : Below B0 w wB := HA.out.2.1.grown gB (by first | omega | (simp; omega)) (fun k hk => by have := (HA.out.1.2.1.block k hk).1; omega)
       have xB : ∀ b, X b → wB.heap[b]? = w.heap[b]? ∧ (Value.slice A4 (ls.length + 1) k4).ownBlock ≠ some b := fun b hb => ⟨(gB.block b (by first | (have := (HX2.out b hb).1; omega) | (have := (HX2.out b hb).1; simp; omega)) (fun e => (HX2.out b hb).2.2.2.2 e.symm)).trans ((HxA.out b hb).1), fun e => (by
         rcases aB with q | q
         · exact (HX2.out b hb).2.2.2.2 (q ▸ e)
         · rw [e] at q; injection q with q; have := (HX2.out b hb).1; first | omega | (simp at q; omega))⟩
       have HxB := Lib.hid xB
       have HZ := Lib.hid (And.intro hB (And.intro bG (And.intro bL hbl)))
       clear hB gB aB bG bL hbl xB))
  all_goals
    clear g3 l0 f3 fl
    go_end0
    exact ⟨rfl, flat_done HX.out.1 HZ.out.1 HZ.out.2.1 HZ.out.2.2.1 (fun b hb => ⟨Nat.lt_of_lt_of_le (HX2.out b hb).1 HZ.out.2.2.2.size, (HX2.out b hb).2.1, (HX2.out b hb).2.2.1, (HxA.out b hb).2, (HxB.out b hb).2⟩), (HZ.out.2.2.2.setCell hB0.1 _).setCell hB0.2 _, fun b hb => ((Below.heap_setCell _ _ _ _ (HX2.out b hb).2.2.1).trans (Below.heap_setCell _ _ _ _ (HX2.out b hb).2.1)).trans (HxB.out b hb).1⟩
end Go.Proofs.YtjdojogjogenkaaDoor

/- Contract: parlmake.Word. -/
namespace Go.Proofs.YtjdojogjogenkaaDoor
open Go.RowKit
set_option linter.unusedVariables false

def MkwS (tm : Int) (most : Nat) (n : Nat) (w : World) (v i : Value) (wr : World) : Prop :=
  ∃ (k : Nat) (ws : List Int), k ≤ n ∧ i = .int .i64 k ∧ ws.length ≤ most ∧ (∀ x ∈ ws, 0 ≤ x ∧ x < tm) ∧ Own wr (fun _ => False) w.heap.size 3 v ws ∧ Below w.heap.size w wr

set_option maxRecDepth 100000 in
set_option maxHeartbeats 8000000 in
theorem mkword_any (tm : Int) (most : Nat) (xs : List Int) (A : Option Addr) (c : Nat) (S : Nat → Prop) (w : World) (ht : 1 ≤ tm) (ht' : tm ≤ 100) (hm : most ≤ 100) (hlc : xs.length ≤ c) (hc : c ≤ 9223372036854775807) (hA : Els w S xs A) (hS : ∀ b, S b → b < w.heap.size) :
    Calls Tryd.prog 18 #[.int .i64 tm, .int .i64 (most : Int), .slice A xs.length c] w fun e w' => ∃ v ws, e = .returned v ∧ ws.length ≤ most ∧ (∀ x ∈ ws, 0 ≤ x ∧ x < tm) ∧ Own w' (fun _ => False) w.heap.size 3 v ws ∧ Below w.heap.size w w' := by
  have HA := Lib.hid hA
  have HS := Lib.hid hS
  clear hA hS
  go_enter Tryd.func18, Tryd.ntmps18
  go_wp2_with fail
  go_loopw [7, 12] (fun v i wr => MkwS tm most xs.length w v i wr) (fun _ i _ => xs.length - (intOf i).toNat)
  case atStart => exact ⟨0, [], Nat.zero_le _, rfl, Nat.zero_le _, by simp, Own.nil _ _ _ _, Below.refl _ _⟩
  case round =>
    obtain ⟨wo, hwo⟩ : ∃ wo : World, wo = wr := ⟨_, rfl⟩
    subst hwo
    obtain ⟨k, ws, hk, rfl, hwl, hws, hown, hb⟩ := hrel
    obtain ⟨As, cs, rfl, hcs1, hcs2, _⟩ := hown.form
    have HO := Lib.hid hown
    have HW := Lib.hid hws
    have HB := Lib.hid hb
    clear hown hws hb
    by_cases hlt : k < xs.length
    · obtain ⟨x, hx⟩ := get_some hlt
      obtain ⟨bi, oi, rfl, hSi, hbi, hxi, hxc⟩ := (HA.out.belowB HB.out HS.out).int hx
      have HX := Lib.hid hxi
      have hk0 : (0 : Int) ≤ (k : Int) := by omega
      clear hx hxi
      by_cases hfull : ws.length = most
      · go_wp2
        go_ret
        exact ⟨_, ws, rfl, hwl, HW.out, HO.out, HB.out⟩
      · have hne : ¬ ((ws.length : Int) = (most : Int)) := by omega
        go_wp2_with fail
        refine (below_any x tm _ HX.out ht (by omega)).mono ?_
        rintro e w3 ⟨r, hr0, hr1, rfl, rfl⟩
        have HR := Lib.hid (And.intro hr0 hr1)
        have hI : Hid (I64 r) := Lib.hid ⟨by omega, by omega⟩
        have hcap1 : (ws.length + 1) * 8 ≤ 140737488355328 := by omega
        have hcap2 : ws.length + 1 ≤ 9223372036854775807 := by omega
        clear hr0 hr1
        go_wp2_with (at_builtin; refine wpList_own1 _ rfl _ _ elemInt rfl rfl (HO.out.alloc _) r [.int .i64 r] rfl (At.new _ _ _) ⟨rfl, hI.out⟩ hcap1 hcap2 (Nat.le_trans HB.out.size ((Below.refl _ _).alloc (Nat.le_refl _) _).size) ?_; intro v' w3 hown3 hg3 hat3; have H3 := Lib.hid (And.intro hown3 hg3); clear hown3 hg3 hat3)
        go_roundw
        case rel =>
          refine ⟨k + 1, ws ++ [r], hlt, by go_num, by rw [List.length_append]; simp; omega, fun y hy => ?_, H3.out.1, bgrown (HB.out.alloc HB.out.size _) H3.out.2 (HO.out.alloc _) (Nat.le_refl _) (Nat.le_trans HB.out.size ((Below.refl _ _).alloc (Nat.le_refl _) _).size)⟩
          rcases List.mem_append.1 hy with h | h
          · exact HW.out y h
          · simp at h
            subst h
            exact HR.out
        case measure => simp [intOf]; omega
    · go_wp2
      go_ret
      exact ⟨_, ws, rfl, hwl, HW.out, HO.out, HB.out⟩
end Go.Proofs.YtjdojogjogenkaaDoor

