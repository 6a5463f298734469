/- Contract: parlref2.FollowOf: what follows the nonterminals. -/
import Derived.Test.YtbboceklkjfimaaDoorQRFollowP
import Derived.Test.YtbboceklkjfimaaDoorQRFirst
import Derived.Test.YtbboceklkjfimaaDoorQRRea
import Derived.Test.YtbboceklkjfimaaDoorQp1
import Derived.StillTailTactics
namespace Go.Proofs.YtbboceklkjfimaaDoor
open Go.RowKit
set_option linter.unusedVariables false

structure FwH (g : Gram) (m n : Nat) (A : Option Addr) (c : Nat) (L : List Int) (inn : List Bool) (f1 f2 : List (List Bool)) (nb ib bf1 bf2 : Nat) (bs1 bs2 : List Nat) (B : Nat) (w wr : World) : Prop where
  G : Blk' wr w.heap.size 35 #[.int .i64 (m : Int), .int .i64 (n : Int), .int .i64 g.start, .slice A g.rules.length c]
  Nb : Blk' wr nb 4 (bcells (nullB L))
  I : Blk' wr ib 4 (bcells inn)
  F1 : RowsM wr bf1 bs1 (m + n) (m + n) (m + n) f1
  F2 : RowsM wr bf2 bs2 (m + n) (m + n) (m + n) f2
  lt : w.heap.size < B ∧ nb < B ∧ ib < B ∧ (∀ b ∈ bf1 :: bs1, b < B) ∧ (∀ b ∈ bf2 :: bs2, b < B)
  bel : Below w.heap.size w wr
  size : B ≤ wr.heap.size
section
variable {g : Gram} {m n : Nat} {A : Option Addr} {c : Nat} {L : List Int} {inn : List Bool} {f1 f2 : List (List Bool)} {nb ib bf1 bf2 : Nat} {bs1 bs2 : List Nat} {B : Nat} {w wr w' : World}
theorem FwH.kept {X : Nat → Prop} (h : FwH g m n A c L inn f1 f2 nb ib bf1 bf2 bs1 bs2 B w wr) (k : Kept X wr w') (hX : ∀ b, X b → B ≤ b) : FwH g m n A c L inn f1 f2 nb ib bf1 bf2 bs1 bs2 B w w' :=
  ⟨h.G.kept k (fun e => by have := hX _ e; have := h.lt.1; omega), h.Nb.kept k (fun e => by have := hX _ e; have := h.lt.2.1; omega), h.I.kept k (fun e => by have := hX _ e; have := h.lt.2.2.1; omega),
    h.F1.kept k (fun b hb e => by have := hX _ e; have := h.lt.2.2.2.1 b hb; omega), h.F2.kept k (fun b hb e => by have := hX _ e; have := h.lt.2.2.2.2 b hb; omega), h.lt,
    bthen h.bel (k.to_below (B := w.heap.size) (fun b hb => by have := hX b hb; have := h.lt.1; omega) h.bel.size) (Nat.le_refl _), Nat.le_trans h.size k.size⟩
theorem FwH.below (h : FwH g m n A c L inn f1 f2 nb ib bf1 bf2 bs1 bs2 B w wr) (k : Below wr.heap.size wr w') : FwH g m n A c L inn f1 f2 nb ib bf1 bf2 bs1 bs2 B w w' :=
  h.kept (Kept.of_below (fun _ => False) k) (fun _ h => h.elim)
end
/-- The rule that the loops stand at. -/
def FwQ (bR y0 : Nat) (Aq : Option Addr) (cq : Nat) (qr : List Sym) (S : Nat → Prop) (wr : World) : Prop :=
  Blk' wr bR 72 #[.int .i64 (y0 : Int), .slice Aq qr.length cq] ∧ Els wr S qr Aq
theorem FwQ.kept {bR y0 cq : Nat} {Aq : Option Addr} {qr : List Sym} {S X : Nat → Prop} {w w' : World} (h : FwQ bR y0 Aq cq qr S w) (k : Kept X w w') (hX : ¬ X bR) (hS : ∀ b, S b → ¬ X b) : FwQ bR y0 Aq cq qr S w' := ⟨h.1.kept k hX, h.2.kept k hS⟩
theorem FwQ.below {bR y0 cq : Nat} {Aq : Option Addr} {qr : List Sym} {S : Nat → Prop} {w w' : World} (h : FwQ bR y0 Aq cq qr S w) (k : Below w.heap.size w w') : FwQ bR y0 Aq cq qr S w' := ⟨h.1.below k h.1.lt, h.2.below k⟩

def folRow0 (m s0 : Nat) (f2 : List (List Bool)) (a : Nat) : List Bool := (List.replicate (m + 1) false).set m ((f2.getD (m + s0) []).getD (m + a) false)
theorem folRow0_is {g : Gram} {m s0 a : Nat} {f2 : List (List Bool)} (hG : Gt f2 (m + s0) (m + a) ↔ WkB g m true (m + s0) (m + a)) (hs : g.start.toNat = s0) : RowIs (m + 1) (FolC g m (Cm 0 0 0) a) (folRow0 m s0 f2 a) := by
  subst hs
  refine (RowIs.zero (m + 1)).setAt (by omega) (fun t ht hne => ⟨fun h => h.elim, fun h => hne (FolC.none.1 h).1⟩) ?_
  rw [getD_some_true, FolC.none]
  exact ⟨fun h => ⟨rfl, hG.1 h⟩, fun h => hG.2 h.2⟩
/-- The table on the way: C, and of the places before (a0, t0) those that Q names. -/
def PT (C Q : Nat → Nat → Prop) (a0 t0 : Nat) (a t : Nat) : Prop := C a t ∨ ((a < a0 ∨ (a = a0 ∧ t < t0)) ∧ Q a t)
theorem PT.none {C Q : Nat → Nat → Prop} (a t : Nat) : C a t ↔ PT C Q 0 0 a t := ⟨.inl, fun h => h.elim id fun h => by omega⟩
theorem PT.next {C Q : Nat → Nat → Prop} {m a0 : Nat} (hQ : ∀ a t, Q a t → t < m) (a t : Nat) : PT C Q a0 m a t ↔ PT C Q (a0 + 1) 0 a t := by
  constructor
  · rintro (h | ⟨h, hq⟩)
    · exact .inl h
    · exact .inr ⟨by omega, hq⟩
  · rintro (h | ⟨h, hq⟩)
    · exact .inl h
    · exact .inr ⟨by have := hQ a t hq; omega, hq⟩
theorem PT.all {C Q : Nat → Nat → Prop} {n a t : Nat} (ha : a < n) : PT C Q n 0 a t ↔ C a t ∨ Q a t := by
  constructor
  · rintro (h | ⟨h, hq⟩)
    · exact .inl h
    · exact .inr hq
  · rintro (h | hq)
    · exact .inl h
    · exact .inr ⟨by omega, hq⟩
theorem PT.far {C Q : Nat → Nat → Prop} {a0 t0 : Nat} (a t : Nat) (h : ¬ (a = a0 ∧ t = t0)) : PT C Q a0 t0 a t ↔ PT C Q a0 (t0 + 1) a t := by
  unfold PT
  constructor
  · rintro (h | ⟨h, hq⟩)
    · exact .inl h
    · exact .inr ⟨by omega, hq⟩
  · rintro (h | ⟨h, hq⟩)
    · exact .inl h
    · exact .inr ⟨by omega, hq⟩
theorem PT.here {C Q : Nat → Nat → Prop} {a0 t0 : Nat} {x la fb : Bool} (hx : x = true ↔ PT C Q a0 t0 a0 t0) (hq : (la = true ∧ fb = true) ↔ Q a0 t0) : (x || (la && fb)) = true ↔ PT C Q a0 (t0 + 1) a0 t0 := by
  rw [Bool.or_eq_true, Bool.and_eq_true, hx, hq]
  unfold PT
  constructor
  · rintro ((h | ⟨h, hq⟩) | h)
    · exact .inl h
    · omega
    · exact .inr ⟨by omega, h⟩
  · rintro (h | ⟨h, hq⟩)
    · exact .inl (.inl h)
    · exact .inr hq
/-- What one pair adds. -/
def Qp (g : Gram) (m ndx ndy a t : Nat) : Prop := t < m ∧ WkB g m true ndx (m + a) ∧ WkF g m ndy t

def FwN (H : World → Prop) (n M O : Nat) (r0 : Nat → List Bool) (i : Value) (wr : World) : Prop :=
  ∃ (k : Nat) (bs : List Nat), k ≤ n ∧ i = .int .i64 k ∧ bs.length = k ∧ RowP wr O n M bs ((List.range k).map r0) ∧ H wr
def FwJ (H : World → Prop) (g : Gram) (m n O : Nat) (bs : List Nat) (i : Value) (wr : World) : Prop :=
  ∃ (j : Nat) (f : List (List Bool)), j ≤ g.rules.length ∧ i = .int .i64 j ∧ RowsM wr O bs (m + 1) n n f ∧ TabIs (m + 1) (FolC g m (Cm j 0 0)) f ∧ H wr
def FwI (H Q : World → Prop) (g : Gram) (m n O : Nat) (bs : List Nat) (j l : Nat) (i : Value) (wr : World) : Prop :=
  ∃ (p : Nat) (f : List (List Bool)), p ≤ l ∧ i = .int .i64 p ∧ RowsM wr O bs (m + 1) n n f ∧ TabIs (m + 1) (FolC g m (Cm j p 0)) f ∧ H wr ∧ Q wr
def FwK (H Q : World → Prop) (g : Gram) (m n O : Nat) (bs : List Nat) (j p l : Nat) (i : Value) (wr : World) : Prop :=
  ∃ (k : Nat) (f : List (List Bool)), p < k ∧ k ≤ l ∧ i = .int .i64 k ∧ RowsM wr O bs (m + 1) n n f ∧ TabIs (m + 1) (FolC g m (Cm j p k)) f ∧ H wr ∧ Q wr
def FwA (H Q : World → Prop) (m n O : Nat) (bs : List Nat) (C D : Nat → Nat → Prop) (i : Value) (wr : World) : Prop :=
  ∃ (a : Nat) (f : List (List Bool)), a ≤ n ∧ i = .int .i64 a ∧ RowsM wr O bs (m + 1) n n f ∧ TabIs (m + 1) (PT C D a 0) f ∧ H wr ∧ Q wr
def FwT (H Q : World → Prop) (m n O : Nat) (bs : List Nat) (C D : Nat → Nat → Prop) (a : Nat) (i : Value) (wr : World) : Prop :=
  ∃ (t : Nat) (f : List (List Bool)), t ≤ m ∧ i = .int .i64 t ∧ RowsM wr O bs (m + 1) n n f ∧ TabIs (m + 1) (PT C D a t) f ∧ H wr ∧ Q wr
def RetRFol (g : Gram) (m n : Nat) (w : World) (e : Ending) (w' : World) : Prop :=
  ∃ bf bs f, e = .returned (.slice (some ⟨bf, 0, none⟩) n n) ∧ RowsM w' bf bs (m + 1) n n f ∧ TabIs (m + 1) (FolR g m) f ∧ (∀ b ∈ bf :: bs, w.heap.size ≤ b) ∧ Below w.heap.size w w'

theorem follow1_any (l : Int) (sl : Value) (w : World) (hsl : ∃ A k c, sl = .slice A k c) : Calls Tryd.prog 87 #[.agg #[.int .i64 l, sl]] w fun e w' => e = .returned (.bool true) ∧ Below w.heap.size w w' := by
  obtain ⟨A, k, c, rfl⟩ := hsl
  go_enter Tryd.func87, Tryd.ntmps87
  go_wp2
  go_ret
  exact ⟨rfl, (Below.refl _ _).alloc (Nat.le_refl _) _⟩

set_option maxRecDepth 100000 in
set_option maxHeartbeats 8000000 in
theorem rfollow_any (g : Gram) (m n : Nat) (A : Option Addr) (c : Nat) (S : Nat → Prop) (w : World) (L : List Int) (hgt : g.terms = (m : Int)) (hgn : g.nons = (n : Int)) (hck : checkI g = 0) (hlc : g.rules.length ≤ c) (hc : c ≤ 9223372036854775807) (hA : Els w S g.rules A) (hS : ∀ b, S b → b < w.heap.size) (hL : LFix g n L) :
    Calls Tryd.prog 43 #[.agg #[.int .i64 g.terms, .int .i64 g.nons, .int .i64 g.start, .slice A g.rules.length c]] w (RetRFol g m n w) := by
  have hv := validG_of hck
  have hri := hv.rulesIn hgn
  have hsi := fun q hq s hs => hv.symIn hgt q hq s hs
  obtain ⟨gt, gn, gs, rs⟩ := g
  dsimp only at *
  subst hgt; subst hgn
  have hn : 1 ≤ n ∧ n ≤ 10 := by have := hv.n1; have := hv.n10; dsimp only at *; omega
  have hm : 1 ≤ m ∧ m ≤ 8 := by have := hv.t1; have := hv.t8; dsimp only at *; omega
  have hgs : 0 ≤ gs ∧ gs.toNat < n := by have := hv.s0; have := hv.s1; dsimp only at *; omega
  have hrl : rs.length ≤ 32 := hv.len
  obtain ⟨s0, rfl⟩ : ∃ s0 : Nat, gs = (s0 : Int) := ⟨gs.toNat, by omega⟩
  have hs0 : s0 < n := by omega
  have HN := Lib.hid hn
  have HRI := Lib.hid hri
  have HSI := Lib.hid hsi
  have HA := Lib.hid hA
  have HS := Lib.hid hS
  have HL := Lib.hid hL
  have HC := Lib.hid hck
  have HGs := Lib.hid hgs
  have hnl : (nullB L).length = n := by unfold nullB; rw [List.length_map]; exact hL.shape.len
  have HEq : Hid (∀ q ∈ rs, ∀ l : List Sym, (∀ s ∈ l, s ∈ q.right) → (emptyB (nullB L) l = true ↔ Nuls ⟨(m : Int), (n : Int), (s0 : Int), rs⟩ l)) := Lib.hid (fun q hq l hl => by
    rw [emptyB_iff]
    constructor
    · intro h s hs
      have h1 := h s hs
      exact ⟨h1.1, (hL.nullB hri (((hri q hq).2.2.2 s (hl s hs)).2 h1.1)).1 h1.2⟩
    · intro h s hs
      have h1 := h s hs
      exact ⟨h1.1, (hL.nullB hri (((hri q hq).2.2.2 s (hl s hs)).2 h1.1)).2 h1.2⟩)
  have hmk := mkRows n (by omega)
  have hmk2 : ∀ W : World, (Instr.makeSlice 37 (.int .i64 ((m : Int) + 1)) (.int .i64 ((m : Int) + 1))).run Tryd.prog W = .ok (.slice (some ⟨W.heap.size, 0, none⟩) (m + 1) (m + 1)) (W.alloc (.cells (bcells (List.replicate (m + 1) false)) 4)) := fun W => by have h := mkBools (m + 1) (by omega) W; push_cast at h; exact h
  have hm8 : (m : Int) ≤ 8 := by omega
  have hn10 : (n : Int) ≤ 10 := by omega
  obtain ⟨w0, hw0⟩ : ∃ w0 : World, w0 = w.alloc (.cells #[.int .i64 (m : Int), .int .i64 (n : Int), .int .i64 (s0 : Int), .slice A rs.length c] 35) := ⟨_, rfl⟩
  have hba : Below w.heap.size w w0 := by rw [hw0]; exact (Below.refl _ _).alloc (Nat.le_refl _) _
  have HBa := Lib.hid hba
  have HGa : Hid (Blk' w0 w.heap.size 35 #[.int .i64 (m : Int), .int .i64 (n : Int), .int .i64 (s0 : Int), .slice A rs.length c]) := Lib.hid (by rw [hw0]; exact Blk'.new w _ _)
  have g0 : w0.cell? ⟨w.heap.size, 0, none⟩ = some (.int .i64 (m : Int)) := HGa.out.cell 0
  have g1 : w0.cell? ⟨w.heap.size, 1, none⟩ = some (.int .i64 (n : Int)) := HGa.out.cell 1
  have g2 : w0.cell? ⟨w.heap.size, 2, none⟩ = some (.int .i64 (s0 : Int)) := HGa.out.cell 2
  have g3 : w0.cell? ⟨w.heap.size, 3, none⟩ = some (.slice A rs.length c) := HGa.out.cell 3
  have zG := HGa.out.lt
  have HW0 := Lib.hid hw0
  have tok1 : True := trivial
  clear hv hri hsi hA hS hL hba hn hm hw0 hck hgs
  go_enter Tryd.func43, Tryd.ntmps43
  go_upto_region 1 with (fail)
  rw [← HW0.out]
  go_region_held3 (fun w' => w'.cell? ⟨w.heap.size, 0, none⟩ = some (.int .i64 (m : Int)) ∧ w'.cell? ⟨w.heap.size, 1, none⟩ = some (.int .i64 (n : Int)) ∧ w'.cell? ⟨w.heap.size, 2, none⟩ = some (.int .i64 (s0 : Int)) ∧ w'.cell? ⟨w.heap.size, 3, none⟩ = some (.slice A rs.length c)) (go_keep)
    (first
    | (go_at_call 22
       refine (rnulls_any ⟨(m : Int), (n : Int), (s0 : Int), rs⟩ n A c S _ L rfl HN.out hlc hc (HA.out.below HBa.out.drew) (fun b hb => by have := HS.out b hb; have := HBa.out.size; simp; omega) (by show rs.length ≤ 1000; omega) HRI.out HL.out).mono ?_
       rintro e w1 ⟨nb, rfl, hNb, hNge, hb1⟩
       have H1 := Lib.hid (((Below.refl w0.heap.size w0).drew).trans hb1)
       have HN1 := Lib.hid (And.intro hNb hNge)
       have a0 := (H1.out.cell (p := ⟨w.heap.size, 0, none⟩) zG).trans g0
       have a1 := (H1.out.cell (p := ⟨w.heap.size, 1, none⟩) zG).trans g1
       have a2 := (H1.out.cell (p := ⟨w.heap.size, 2, none⟩) zG).trans g2
       have a3 := (H1.out.cell (p := ⟨w.heap.size, 3, none⟩) zG).trans g3
       clear hNb hNge hb1)
    | (have _t := tok1
       clear tok1
       go_at_call 66
       refine (redges_any ⟨(m : Int), (n : Int), (s0 : Int), rs⟩ m n (m + n) false A c S _ L rfl rfl rfl HC.out hlc hc (HA.out.below (bthen HBa.out H1.out HBa.out.size)) (fun b hb => by have := HS.out b hb; have := HBa.out.size; have := H1.out.size; omega) HL.out).mono ?_
       rintro e w2 ⟨bf1, bs1, f1, rfl, hR2, hG2, hbs2, hb2⟩
       have H2 := Lib.hid (bthen H1.out hb2 H1.out.size)
       have HR2 := Lib.hid (And.intro hR2 (And.intro hG2 hbs2))
       have HN2 := Lib.hid (HN1.out.1.below hb2 HN1.out.1.lt)
       have b0 := (H2.out.cell (p := ⟨w.heap.size, 0, none⟩) zG).trans g0
       have b1 := (H2.out.cell (p := ⟨w.heap.size, 1, none⟩) zG).trans g1
       have b2 := (H2.out.cell (p := ⟨w.heap.size, 2, none⟩) zG).trans g2
       have b3 := (H2.out.cell (p := ⟨w.heap.size, 3, none⟩) zG).trans g3
       clear hR2 hG2 hbs2 hb2)
    | (go_at_call 66
       refine (redges_any ⟨(m : Int), (n : Int), (s0 : Int), rs⟩ m n (m + n) true A c S _ L rfl rfl rfl HC.out hlc hc (HA.out.below (bthen HBa.out H2.out HBa.out.size)) (fun b hb => by have := HS.out b hb; have := HBa.out.size; have := H2.out.size; omega) HL.out).mono ?_
       rintro e w3 ⟨bf2, bs2, f2, rfl, hR3, hG3, hbs3, hb3⟩
       have H3 := Lib.hid (bthen H2.out hb3 H2.out.size)
       have HR3 := Lib.hid (And.intro hR3 (And.intro hG3 hbs3))
       have HR23 := Lib.hid (HR2.out.1.below hb3)
       have HN3 := Lib.hid (HN2.out.below hb3 HN2.out.lt)
       have d0 := (H3.out.cell (p := ⟨w.heap.size, 0, none⟩) zG).trans g0
       have d1 := (H3.out.cell (p := ⟨w.heap.size, 1, none⟩) zG).trans g1
       have d2 := (H3.out.cell (p := ⟨w.heap.size, 2, none⟩) zG).trans g2
       have d3 := (H3.out.cell (p := ⟨w.heap.size, 3, none⟩) zG).trans g3
       clear hR3 hG3 hbs3 hb3))
  have HB3 := Lib.hid (bthen HBa.out H3.out HBa.out.size)
  have HG3 := Lib.hid (HGa.out.below H3.out HGa.out.lt)
  have HM1 := Lib.hid HR2.out.2.1
  have HM2 := Lib.hid HR3.out.2.1
  go_wp2_with fail
  refine (rreached_any ⟨(m : Int), (n : Int), (s0 : Int), rs⟩ (fun _ => true) _ #[] n A c S _ rfl (by have := HN.out; omega) HGs.out hlc hc (HA.out.below HB3.out) (fun b hb => by have := HS.out b hb; have := HB3.out.size; omega) HRI.out (isGo_of Tryd.func87 (by kernel_rfl) (by kernel_rfl)) (fun x W _ _ A' c' _ _ _ => follow1_any x.left _ W ⟨_, _, _, rfl⟩)).mono ?_
  rintro e w4 ⟨ib, inn, rfl, hset, hI, hIge, hb4⟩
  have HSet := Lib.hid hset
  have hil : inn.length = n := hset.1
  have H4 : Hid (FwH ⟨(m : Int), (n : Int), (s0 : Int), rs⟩ m n A c L inn f1 f2 nb ib bf1 bf2 bs1 bs2 w4.heap.size w w4) := Lib.hid ⟨HG3.out.below hb4 HG3.out.lt, HN3.out.below hb4 HN3.out.lt, hI, HR23.out.below hb4, HR3.out.1.below hb4,
    ⟨(HG3.out.below hb4 HG3.out.lt).lt, (HN3.out.below hb4 HN3.out.lt).lt, hI.lt, (HR23.out.below hb4).lt, (HR3.out.1.below hb4).lt⟩, bthen HB3.out hb4 HB3.out.size, Nat.le_refl _⟩
  obtain ⟨w5, hw5⟩ : ∃ w5 : World, w5 = w4.alloc (.cells (scells [] 0 n) 37) := ⟨_, rfl⟩
  have H5 : Hid (FwH ⟨(m : Int), (n : Int), (s0 : Int), rs⟩ m n A c L inn f1 f2 nb ib bf1 bf2 bs1 bs2 w4.heap.size w w5) := Lib.hid (H4.out.below (by rw [hw5]; exact (Below.refl _ _).alloc (Nat.le_refl _) _))
  have HO5 : Hid (Blk' w5 w4.heap.size 37 (scells [] 0 n)) := Lib.hid (by rw [hw5]; exact Blk'.new _ _ _)
  have HW5 := Lib.hid hw5
  have c1 : w4.cell? ⟨w.heap.size, 1, none⟩ = some (.int .i64 (n : Int)) := H4.out.G.cell 1
  have zG4 : w.heap.size < w4.heap.size := H4.out.G.lt
  clear hset hI hIge hb4 a0 a1 a2 a3 b0 b1 b2 b3 d0 d1 d2 d3 g0 g1 g2 g3 hw5 HR2 HR3 HR23 HN1 HN2 HN3 H1 H2 H3 HB3 HG3 HBa HGa HW0
  go_upto_region 4 with (fail)
  rw [← HW5.out]
  clear c1
  go_wp2_with fail
  go_loopw [30] (fun i wr => FwN (FwH ⟨(m : Int), (n : Int), (s0 : Int), rs⟩ m n A c L inn f1 f2 nb ib bf1 bf2 bs1 bs2 w4.heap.size w) n (m + 1) w4.heap.size (folRow0 m s0 f2) i wr) (fun i _ => n - (intOf i).toNat)
  case atStart => exact ⟨0, [], Nat.zero_le _, rfl, rfl, RowP.start (m + 1) HO5.out, H5.out⟩
  case round =>
    obtain ⟨wo, hwo⟩ : ∃ wo : World, wo = wr := ⟨_, rfl⟩
    subst hwo
    obtain ⟨k, bs, hk, rfl, hbl, hP, hH⟩ := hrel
    have HP := Lib.hid hP
    have HH := Lib.hid hH
    have zF := hP.outer.lt
    clear hP hH
    by_cases hkn : k < n
    · have hk0 : (0 : Int) ≤ (k : Int) := by omega
      have hk9 : (k : Int) < (n : Int) := by omega
      have c0 : wo.cell? ⟨w4.heap.size, k, none⟩ = some (.slice none 0 0) := (HP.out.outer.cell k).trans (scells_nil (by omega) hkn)
      have f0 := HP.out.outer.frozen k
      have c1 : wo.cell? ⟨w.heap.size, 0, none⟩ = some (.int .i64 (m : Int)) := HH.out.G.cell 0
      have zGo := HH.out.G.lt
      have HBl := Lib.hid hbl
      obtain ⟨wA, hwA⟩ : ∃ wA : World, wA = (wo.setCell ⟨w4.heap.size, k, none⟩ (.slice (some ⟨wo.heap.size, 0, none⟩) (m + 1) (m + 1))).alloc (.cells (bcells (List.replicate (m + 1) false)) 4) := ⟨_, rfl⟩
      have HKA : Hid (Kept (fun b => b = w4.heap.size) wo wA) := Lib.hid (by rw [hwA]; exact ((Kept.refl (fun b => b = w4.heap.size) wo).setCell (p := ⟨w4.heap.size, k, none⟩) (.inl rfl) _).alloc _)
      have HOA : Hid (Blk' wA w4.heap.size 37 (scells (bs ++ [wo.heap.size]) (m + 1) n)) := Lib.hid (by
        rw [hwA, ← scells_set (by omega), hbl]
        exact (HP.out.outer.set_ k _).alloc _)
      have HRA : Hid (Blk' wA wo.heap.size 4 (bcells (List.replicate (m + 1) false))) := Lib.hid (by rw [hwA]; exact Blk'.new' _ _ _ (by simp [World.setCell]))
      have HHA : Hid (FwH ⟨(m : Int), (n : Int), (s0 : Int), rs⟩ m n A c L inn f1 f2 nb ib bf1 bf2 bs1 bs2 w4.heap.size w wA) := Lib.hid (HH.out.kept HKA.out (fun b hb => by omega))
      obtain ⟨bl, hbl2⟩ := get_some (show m + s0 < bs2.length by rw [HHA.out.F2.blen]; omega)
      obtain ⟨row, hrow, hrg, hrlen⟩ := (WarS.of_rows HHA.out.F2).get (show m + s0 < m + n by omega)
      obtain ⟨y, hy⟩ := get_some (show m + k < row.length by omega)
      have a0 : wA.cell? ⟨w.heap.size, 0, none⟩ = some (.int .i64 (m : Int)) := HHA.out.G.cell 0
      have a2 : wA.cell? ⟨w.heap.size, 2, none⟩ = some (.int .i64 (s0 : Int)) := HHA.out.G.cell 2
      have a3 : wA.cell? ⟨w4.heap.size, k, none⟩ = some (.slice (some ⟨wo.heap.size, 0, none⟩) (m + 1) (m + 1)) := (HOA.out.cell k).trans (scells_get (by rw [List.getElem?_append_right (by omega)]; simp [hbl]))
      have a4 : wA.cell? ⟨bf2, m + s0, none⟩ = some (.slice (some ⟨bl, 0, none⟩) (m + n) (m + n)) := HHA.out.F2.outer _ bl hbl2
      have a5 : wA.cell? ⟨bl, m + k, none⟩ = some (.bool y) := ((HHA.out.F2.rows _ bl row hbl2 hrow).1.cell _).trans (bcells_get hy)
      have a6 : wA.cell? ⟨wo.heap.size, m, none⟩ = some (.bool false) := (HRA.out.cell m).trans (bcells_get (by rw [List.getElem?_replicate, if_pos (by omega)]))
      have f6 := HRA.out.frozen m
      have zA1 := HHA.out.G.lt
      have zA2 := HOA.out.lt
      have zA3 := HHA.out.F2.bflt
      have zA4 := (HHA.out.F2.rows _ bl row hbl2 hrow).1.lt
      have zA5 := HRA.out.lt
      have hm0 : (0 : Int) ≤ (m : Int) := by omega
      have hm1 : (m : Int) < (m : Int) + 1 := by omega
      have hi1 : (m : Int) + (s0 : Int) < (m : Int) + (n : Int) := by omega
      have hi2 : (m : Int) + (k : Int) < (m : Int) + (n : Int) := by omega
      have hi3 : 0 ≤ (m : Int) + (s0 : Int) := by omega
      have hi4 : 0 ≤ (m : Int) + (k : Int) := by omega
      have ht1 : ((m : Int) + (s0 : Int)).toNat = m + s0 := by omega
      have ht2 : ((m : Int) + (k : Int)).toNat = m + k := by omega
      have hw1 : IntKind.i64.wrap ((m : Int) + (s0 : Int)) = (m : Int) + (s0 : Int) := IntWalk.i64_in _ (by omega)
      have hw2 : IntKind.i64.wrap ((m : Int) + (k : Int)) = (m : Int) + (k : Int) := IntWalk.i64_in _ (by omega)
      have HKB : Hid (Kept (fun b => b = w4.heap.size) wo (wA.setCell ⟨wo.heap.size, m, none⟩ (.bool y)).drew) := Lib.hid (HKA.out.setCell (p := ⟨wo.heap.size, m, none⟩) (.inr (Nat.le_refl _)) _).drew
      have HPB : Hid (RowP (wA.setCell ⟨wo.heap.size, m, none⟩ (.bool y)).drew w4.heap.size n (m + 1) (bs ++ [wo.heap.size]) ((List.range (k + 1)).map (folRow0 m s0 f2))) := Lib.hid (by
        rw [List.range_succ, List.map_append]
        refine HP.out.next (by omega) HKB.out ?_ (row := folRow0 m s0 f2 k) ?_ (by simp [folRow0]) (Nat.le_refl _)
        · exact (HOA.out.kept ((Kept.refl (fun b => b = wo.heap.size) wA).setCell (p := ⟨wo.heap.size, m, none⟩) (.inl rfl) _) (by omega)).drew
        · unfold folRow0
          rw [hrg, List.getD_eq_getElem?_getD, hy, Option.getD_some, ← bcells_set]
          exact (HRA.out.set_ m _).drew)
      have HHB : Hid (FwH ⟨(m : Int), (n : Int), (s0 : Int), rs⟩ m n A c L inn f1 f2 nb ib bf1 bf2 bs1 bs2 w4.heap.size w (wA.setCell ⟨wo.heap.size, m, none⟩ (.bool y)).drew) := Lib.hid (HH.out.kept HKB.out (fun b hb => by omega))
      have HWA := Lib.hid hwA
      have zF2 : w4.heap.size < wo.heap.size + 1 := by omega
      clear hbl hwA hbl2 hrow hrg hrlen hy
      go_upto_region 8 with (fail)
      rw [← HWA.out]
      go_wp2_with fail
      go_still_tail 21, (by kernel_rfl)
      change wpList _ _ _ _ _ wA.drew
      go_wp2_with fail
      go_roundw
      case rel => exact ⟨k + 1, bs ++ [wo.heap.size], hkn, by go_num, by simp [HBl.out], HPB.out, HHB.out⟩
      case measure => simp [intOf]; omega
    · have hkk : k = n := by omega
      have HRM : Hid (RowsM wo w4.heap.size bs (m + 1) n n ((List.range n).map (folRow0 m s0 f2))) := Lib.hid (by have h := HP.out.done (by omega) (by omega); rw [hkk] at h; exact h)
      have HBs : Hid (∀ b ∈ bs, w4.heap.size < b) := Lib.hid (fun b hb => (HP.out.lt b hb).1)
      have HT0 : Hid (TabIs (m + 1) (FolC ⟨(m : Int), (n : Int), (s0 : Int), rs⟩ m (Cm 0 0 0)) ((List.range n).map (folRow0 m s0 f2))) := Lib.hid (fun a row hr => by
        rw [List.getElem?_map] at hr
        obtain ⟨a', ha', rfl⟩ := Option.map_eq_some_iff.1 hr
        obtain ⟨h2, h3⟩ := List.getElem?_eq_some_iff.1 ha'
        rw [List.getElem_range] at h3
        subst h3
        exact folRow0_is (HM2.out _ _ (by omega)) (by simp))
      have g3 : wo.cell? ⟨w.heap.size, 3, none⟩ = some (.slice A rs.length c) := HH.out.G.cell 3
      have zGo := HH.out.G.lt
      have hrl9 : rs.length ≤ 9223372036854775807 := by omega
      clear HP H4 H5 HO5 HW5
      go_wp2_with fail
      clear hkk hkn hk hbl g3
      go_loopw [65] (fun i wr => FwJ (FwH ⟨(m : Int), (n : Int), (s0 : Int), rs⟩ m n A c L inn f1 f2 nb ib bf1 bf2 bs1 bs2 w4.heap.size w) ⟨(m : Int), (n : Int), (s0 : Int), rs⟩ m n w4.heap.size bs i wr) (fun i _ => rs.length - (intOf i).toNat)
      case atStart => exact ⟨0, _, Nat.zero_le _, rfl, HRM.out, HT0.out, HH.out⟩
      case round =>
        obtain ⟨wi, hwi⟩ : ∃ wi : World, wi = wr := ⟨_, rfl⟩
        subst hwi
        obtain ⟨j, f, hj, rfl, hR, hT, hH⟩ := hrel
        have HR := Lib.hid hR
        have HT := Lib.hid hT
        have HHi := Lib.hid hH
        dsimp only at hj
        clear hR hT hH
        by_cases hlt : j < rs.length
        · obtain ⟨q, hq⟩ := get_some hlt
          obtain ⟨bq, oq, Aq, cq, eA, hSb, hbs, hi, hrc, hcr, hEr, hc0, hc1⟩ := (HA.out.belowB HHi.out.bel HS.out).rule hq
          subst eA
          obtain ⟨hl0, hl1, hr4, hsy⟩ := HRI.out q (List.mem_of_getElem? hq)
          have HQ := Lib.hid (And.intro hq (And.intro hsy (List.mem_of_getElem? hq)))
          obtain ⟨ql, qr⟩ := q
          dsimp only at hi hrc hcr hEr hc0 hc1 hl0 hl1 hr4 hsy
          obtain ⟨y0, rfl⟩ : ∃ y0 : Nat, ql = (y0 : Int) := ⟨ql.toNat, by omega⟩
          have hy0 : y0 < n := by omega
          have hj0 : (0 : Int) ≤ (j : Int) := by omega
          obtain ⟨w6, hw6⟩ : ∃ w6 : World, w6 = wi.alloc (.cells #[.int .i64 (y0 : Int), .slice Aq qr.length cq] 72) := ⟨_, rfl⟩
          have hb6 : Below wi.heap.size wi w6 := by rw [hw6]; exact (Below.refl _ _).alloc (Nat.le_refl _) _
          have HQ6 : Hid (FwQ wi.heap.size y0 Aq cq qr S w6) := Lib.hid ⟨by rw [hw6]; exact Blk'.new _ _ _, hEr.below hb6⟩
          have HR6 := Lib.hid (HR.out.below hb6)
          have HH6 := Lib.hid (HHi.out.below hb6)
          have HW6 := Lib.hid hw6
          have HBi : Hid (∀ b ∈ bs, b < wi.heap.size ∧ w4.heap.size < b ∧ ¬ S b) := Lib.hid (fun b hb => ⟨HR.out.lt b (by simp [hb]), HBs.out b hb, fun h => by have := HS.out b h; have := HBs.out b hb; have := HHi.out.lt.1; omega⟩)
          obtain ⟨iy, hiy⟩ := get_some (show y0 < inn.length by omega)
          have HIy := Lib.hid hiy
          have q1 : w6.cell? ⟨wi.heap.size, 1, none⟩ = some (.slice Aq qr.length cq) := HQ6.out.1.cell 1
          have z6 : wi.heap.size < w6.heap.size := HQ6.out.1.lt
          have hqlen : qr.length ≤ 9223372036854775807 := by omega
          clear hq hsy hw6 hb6 hEr hi hiy
          go_upto_region 13 with (fail)
          rw [← HW6.out]
          go_wp2_with fail
          clear q1
          go_loopw [72] (fun i wr => FwI (FwH ⟨(m : Int), (n : Int), (s0 : Int), rs⟩ m n (some ⟨bq, oq, none⟩) c L inn f1 f2 nb ib bf1 bf2 bs1 bs2 w4.heap.size w) (FwQ wi.heap.size y0 Aq cq qr S) ⟨(m : Int), (n : Int), (s0 : Int), rs⟩ m n w4.heap.size bs j qr.length i wr) (fun i _ => qr.length - (intOf i).toNat)
          case atStart => exact ⟨0, f, Nat.zero_le _, rfl, HR6.out, HT.out, HH6.out, HQ6.out⟩
          case round =>
            obtain ⟨wz, hwz⟩ : ∃ wz : World, wz = wr := ⟨_, rfl⟩
            subst hwz
            obtain ⟨p, fp, hp, rfl, hR, hT, hH, hQ⟩ := hrel
            have HRz := Lib.hid hR
            have HTz := Lib.hid hT
            have HHz := Lib.hid hH
            have HQz := Lib.hid hQ
            clear hR hT hH hQ
            by_cases hpl : p < qr.length
            · have hp0 : (0 : Int) ≤ (p : Int) := by omega
              have HTz2 : Hid (TabIs (m + 1) (FolC ⟨(m : Int), (n : Int), (s0 : Int), rs⟩ m (Cm j p (p + 1))) fp) := Lib.hid (HTz.out.congr (fun a t _ _ => FolC.nextk.symm))
              have hwp : IntKind.i64.wrap ((p : Int) + 1) = (p : Int) + 1 := IntWalk.i64_in _ (by omega)
              go_wp2_with fail
              go_loopw [12] (fun i wr => FwK (FwH ⟨(m : Int), (n : Int), (s0 : Int), rs⟩ m n (some ⟨bq, oq, none⟩) c L inn f1 f2 nb ib bf1 bf2 bs1 bs2 w4.heap.size w) (FwQ wi.heap.size y0 Aq cq qr S) ⟨(m : Int), (n : Int), (s0 : Int), rs⟩ m n w4.heap.size bs j p qr.length i wr) (fun i _ => qr.length - (intOf i).toNat)
              case atStart => exact ⟨p + 1, fp, by omega, by omega, by go_num, HRz.out, HTz2.out, HHz.out, HQz.out⟩
              case round =>
                obtain ⟨wk, hwk⟩ : ∃ wk : World, wk = wr := ⟨_, rfl⟩
                subst hwk
                obtain ⟨k, fk, hpk, hkq, rfl, hR, hT, hH, hQ⟩ := hrel
                have HRk := Lib.hid hR
                have HTk := Lib.hid hT
                have HHk := Lib.hid hH
                have HQk := Lib.hid hQ
                have r0 : wk.cell? ⟨wi.heap.size, 0, none⟩ = some (.int .i64 (y0 : Int)) := hQ.1.cell 0
                have r1 : wk.cell? ⟨wi.heap.size, 1, none⟩ = some (.slice Aq qr.length cq) := hQ.1.cell 1
                have zrk := hQ.1.lt
                clear hR hT hH hQ
                by_cases hkl : k < qr.length
                · have hk0 : (0 : Int) ≤ (k : Int) := by omega
                  have hk9 : (k : Int) < (qr.length : Int) := by omega
                  have i0 : wk.cell? ⟨ib, y0, none⟩ = some (.bool iy) := (HHk.out.I.cell _).trans (bcells_get HIy.out)
                  have zik := HHk.out.I.lt
                  have hy9 : (y0 : Int) < (n : Int) := by omega
                  have hy00 : (0 : Int) ≤ (y0 : Int) := by omega
                  have HRea : Hid (iy = true ↔ Rea ⟨(m : Int), (n : Int), (s0 : Int), rs⟩ (fun _ => true) y0) := Lib.hid ((show iy = true ↔ inn[y0]? = some true from by rw [HIy.out]; simp).trans (HSet.out.2 y0 hy0))
                  cases iy
                  · have HTn : Hid (TabIs (m + 1) (FolC ⟨(m : Int), (n : Int), (s0 : Int), rs⟩ m (Cm j p (k + 1))) fk) := Lib.hid (HTk.out.congr (fun a t _ _ => (FolC.skip HQ.out.1 (fun h => by have h2 := HRea.out.2 (by simpa using h.1); cases h2)).symm))
                    go_wp2_with fail
                    go_roundw
                    case rel => exact ⟨k + 1, fk, by omega, hkl, by go_num, HRk.out, HTn.out, HHk.out, HQk.out⟩
                    case measure => simp [intOf]; omega
                  · obtain ⟨x, hx⟩ := get_some hpl
                    obtain ⟨y, hy⟩ := get_some hkl
                    obtain ⟨bx, ox, eA, hSx, hbx, hxi, hxc0, hxc1⟩ := HQk.out.2.sym hx
                    subst eA
                    have HX := Lib.hid (And.intro hx hy)
                    have HSx := Lib.hid (And.intro hSx hbx)
                    have hsx := HQ.out.2.1 x (List.mem_of_getElem? hx)
                    have hsy := HQ.out.2.1 y (List.mem_of_getElem? hy)
                    have hinx := HSI.out _ HQ.out.2.2 x (List.mem_of_getElem? hx)
                    have hiny := HSI.out _ HQ.out.2.2 y (List.mem_of_getElem? hy)
                    obtain ⟨xt, xn⟩ := x
                    obtain ⟨yt, yn⟩ := y
                    dsimp only at hsx hsy hinx hiny
                    obtain ⟨v0, rfl⟩ : ∃ v0 : Nat, xn = (v0 : Int) := ⟨xn.toNat, by omega⟩
                    obtain ⟨u0, rfl⟩ : ∃ u0 : Nat, yn = (u0 : Int) := ⟨yn.toNat, by omega⟩
                    obtain ⟨nx, hnx1, hnx2, hnxN, hv100⟩ : ∃ nd : Nat, nodeI (m : Int) ⟨xt, (v0 : Int)⟩ = (nd : Int) ∧ nodeS m ⟨xt, (v0 : Int)⟩ = nd ∧ nd < m + n ∧ v0 ≤ 100 := by
                      have h := hinx.2
                      unfold nodeI nodeS
                      cases xt
                      · have := hsx.2 rfl
                        exact ⟨m + v0, by simp, by simp, by omega, by omega⟩
                      · simp at h
                        exact ⟨v0, by simp, by simp, by omega, by omega⟩
                    obtain ⟨ny, hny1, hny2, hnyN, hu100⟩ : ∃ nd : Nat, nodeI (m : Int) ⟨yt, (u0 : Int)⟩ = (nd : Int) ∧ nodeS m ⟨yt, (u0 : Int)⟩ = nd ∧ nd < m + n ∧ u0 ≤ 100 := by
                      have h := hiny.2
                      unfold nodeI nodeS
                      cases yt
                      · have := hsy.2 rfl
                        exact ⟨m + u0, by simp, by simp, by omega, by omega⟩
                      · simp at h
                        exact ⟨u0, by simp, by simp, by omega, by omega⟩
                    have HNx := Lib.hid (And.intro hnx1 hnx2)
                    have HNy := Lib.hid (And.intro hny1 hny2)
                    have HEm : Hid (Els wk S ((qr.take k).drop (p + 1)) (some ⟨bx, ox + (p + 1) * 2, none⟩) ∧ ((qr.take k).drop (p + 1)).length = k - (p + 1)) := Lib.hid ⟨by
                      have h := mid_drop qr p (k - (p + 1))
                      rw [show p + 1 + (k - (p + 1)) = k from by omega] at h
                      rw [h]
                      exact (HQk.out.2.dropSym (p + 1)).takeSym _, by rw [List.length_drop, List.length_take]; omega⟩
                    have HNu := Lib.hid (HEq.out _ HQ.out.2.2 ((qr.take k).drop (p + 1)) (fun s hs => List.mem_of_mem_take (List.mem_of_mem_drop hs)))
                    have hce : (cq = p + 1) = False := eq_false (by omega)
                    have hw1 : IntKind.i64.wrap ((p : Int) + 1) = (p : Int) + 1 := IntWalk.i64_in _ (by omega)
                    have hs1 : (p : Int) + 1 ≤ (k : Int) := by omega
                    have hs2 : (k : Int) ≤ (cq : Int) := by omega
                    clear hx hy hxi hxc0 hxc1 hSx hbx hinx hiny hnx1 hnx2 hny1 hny2
                    go_wp2_with fail
                    refine (rempty_any nb n _ _ (nullB L) ((qr.take k).drop (p + 1)) _ S _ HHk.out.Nb hnl ?el (by rw [HEm.out.2]; omega) (fun s hs => HQ.out.2.1 s (List.mem_of_mem_take (List.mem_of_mem_drop hs))) HEm.out.1).mono ?_
                    case el => rw [HEm.out.2]
                    rintro e w7 ⟨rfl, hb7⟩
                    have HR7 := Lib.hid (HRk.out.below hb7)
                    have HH7 := Lib.hid (HHk.out.below hb7)
                    have HQ7 := Lib.hid (HQk.out.below hb7)
                    clear hb7 r0 r1 i0 hce
                    cases he : emptyB (nullB L) ((qr.take k).drop (p + 1))
                    · have HTn : Hid (TabIs (m + 1) (FolC ⟨(m : Int), (n : Int), (s0 : Int), rs⟩ m (Cm j p (k + 1))) fk) := Lib.hid (HTk.out.congr (fun a t _ _ => (FolC.skip HQ.out.1 (fun h => by have h2 := HNu.out.2 h.2; rw [he] at h2; cases h2)).symm))
                      clear he
                      go_wp2_with fail
                      go_roundw
                      case rel => exact ⟨k + 1, fk, by omega, hkl, by go_num, HR7.out, HTn.out, HH7.out, HQ7.out⟩
                      case measure => simp [intOf]; omega
                    · have HHit := Lib.hid (fun a t => @FolC.hit ⟨(m : Int), (n : Int), (s0 : Int), rs⟩ m j p k a t _ _ _ HQ.out.1 (HRea.out.1 (by first | rfl | trivial)) hpk HX.out.1 HX.out.2 (HNu.out.1 he))
                      clear he
                      obtain ⟨b2, hb2⟩ := get_some (show nx < bs2.length by rw [HH7.out.F2.blen]; exact hnxN)
                      obtain ⟨r2, hr2, hr2g, hr2l⟩ := (WarS.of_rows HH7.out.F2).get hnxN
                      obtain ⟨b1, hb1⟩ := get_some (show ny < bs1.length by rw [HH7.out.F1.blen]; exact hnyN)
                      obtain ⟨r1, hr1, hr1g, hr1l⟩ := (WarS.of_rows HH7.out.F1).get hnyN
                      have HRows := Lib.hid (And.intro (And.intro hb2 (And.intro hr2 (And.intro hr2g hr2l))) (And.intro hb1 (And.intro hr1 (And.intro hr1g hr1l))))
                      obtain ⟨_, _, eX, _, _, _, x0, x1⟩ := HQ7.out.2.sym HX.out.1
                      injection eX with eX
                      injection eX with eX1 eX2 _
                      subst eX1
                      subst eX2
                      obtain ⟨_, _, eX, _, _, _, y0c, y1c⟩ := HQ7.out.2.sym HX.out.2
                      injection eX with eX
                      injection eX with eX1 eX2 _
                      subst eX1
                      subst eX2
                      dsimp only at x0 x1 y0c y1c
                      have g0 : w7.cell? ⟨w.heap.size, 0, none⟩ = some (.int .i64 (m : Int)) := HH7.out.G.cell 0
                      have g1 : w7.cell? ⟨w.heap.size, 1, none⟩ = some (.int .i64 (n : Int)) := HH7.out.G.cell 1
                      have g2 : w7.cell? ⟨w.heap.size, 2, none⟩ = some (.int .i64 (s0 : Int)) := HH7.out.G.cell 2
                      have g3 : w7.cell? ⟨w.heap.size, 3, none⟩ = some (.slice (some ⟨bq, oq, none⟩) rs.length c) := HH7.out.G.cell 3
                      have r1c : w7.cell? ⟨wi.heap.size, 1, none⟩ = some (.slice (some ⟨bx, ox, none⟩) qr.length cq) := HQ7.out.1.cell 1
                      have l0 : w7.cell? ⟨bf2, nx, none⟩ = some (.slice (some ⟨b2, 0, none⟩) (m + n) (m + n)) := HH7.out.F2.outer _ b2 hb2
                      have l1 : w7.cell? ⟨bf1, ny, none⟩ = some (.slice (some ⟨b1, 0, none⟩) (m + n) (m + n)) := HH7.out.F1.outer _ b1 hb1
                      have zG7 := HH7.out.G.lt
                      have zR7 := HQ7.out.1.lt
                      have zl0 := HH7.out.F2.bflt
                      have zl1 := HH7.out.F1.bflt
                      have zX7 : bx < w7.heap.size := by have := HSx.out.2; have := HR7.out; exact Nat.lt_of_lt_of_le (HS.out bx HSx.out.1) (by have := HH7.out.bel.size; exact this)
                      have hp9 : (p : Int) < (qr.length : Int) := by omega
                      have hnx9 : (nx : Int) < (m : Int) + (n : Int) := by omega
                      have hny9 : (ny : Int) < (m : Int) + (n : Int) := by omega
                      have hnx0 : (0 : Int) ≤ (nx : Int) := by omega
                      have hny0 : (0 : Int) ≤ (ny : Int) := by omega
                      have HMV := Lib.hid (And.intro (show 0 ≤ (m : Int) ∧ (m : Int) ≤ 1000 by omega) (And.intro (show 0 ≤ (v0 : Int) ∧ (v0 : Int) ≤ 1000 by omega) (show 0 ≤ (u0 : Int) ∧ (u0 : Int) ≤ 1000 by omega)))
                      have tok1 : True := trivial
                      clear hb2 hr2 hr2g hr2l hb1 hr1 hr1g hr1l
                      go_wp2_with fail
                      go_region_held3 (fun w' => w'.cell? ⟨w.heap.size, 0, none⟩ = some (.int .i64 (m : Int)) ∧ w'.cell? ⟨w.heap.size, 1, none⟩ = some (.int .i64 (n : Int)) ∧ w'.cell? ⟨w.heap.size, 2, none⟩ = some (.int .i64 (s0 : Int)) ∧ w'.cell? ⟨w.heap.size, 3, none⟩ = some (.slice (some ⟨bq, oq, none⟩) rs.length c) ∧ w'.cell? ⟨wi.heap.size, 1, none⟩ = some (.slice (some ⟨bx, ox, none⟩) qr.length cq) ∧ w'.cell? ⟨bx, ox + p * 2, none⟩ = some (.bool xt) ∧ w'.cell? ⟨bx, ox + p * 2 + 1, none⟩ = some (.int .i64 (v0 : Int)) ∧ w'.cell? ⟨bx, ox + k * 2, none⟩ = some (.bool yt) ∧ w'.cell? ⟨bx, ox + k * 2 + 1, none⟩ = some (.int .i64 (u0 : Int)) ∧ w'.cell? ⟨bf2, nx, none⟩ = some (.slice (some ⟨b2, 0, none⟩) (m + n) (m + n)) ∧ w'.cell? ⟨bf1, ny, none⟩ = some (.slice (some ⟨b1, 0, none⟩) (m + n) (m + n))) (go_keep)
                        (first
                        | (have _t := tok1
                           clear tok1
                           go_at_call 68
                           refine (rnode_any (m : Int) (n : Int) (s0 : Int) _ ⟨xt, (v0 : Int)⟩ _ ⟨_, _, _, rfl⟩ HMV.out.1 HMV.out.2.1).mono ?_
                           rintro e w8 ⟨rfl, hb8⟩
                           rw [HNx.out.1]
                           have H8 := Lib.hid (((Below.refl w7.heap.size w7).drew).trans hb8)
                           have e8g0 := (H8.out.cell (p := ⟨w.heap.size, 0, none⟩) zG7).trans g0
                           have e8g1 := (H8.out.cell (p := ⟨w.heap.size, 1, none⟩) zG7).trans g1
                           have e8g2 := (H8.out.cell (p := ⟨w.heap.size, 2, none⟩) zG7).trans g2
                           have e8g3 := (H8.out.cell (p := ⟨w.heap.size, 3, none⟩) zG7).trans g3
                           have e8r1c := (H8.out.cell (p := ⟨wi.heap.size, 1, none⟩) zR7).trans r1c
                           have e8x0 := (H8.out.cell (p := ⟨bx, ox + p * 2, none⟩) zX7).trans x0
                           have e8x1 := (H8.out.cell (p := ⟨bx, ox + p * 2 + 1, none⟩) zX7).trans x1
                           have e8y0c := (H8.out.cell (p := ⟨bx, ox + k * 2, none⟩) zX7).trans y0c
                           have e8y1c := (H8.out.cell (p := ⟨bx, ox + k * 2 + 1, none⟩) zX7).trans y1c
                           have e8l0 := (H8.out.cell (p := ⟨bf2, nx, none⟩) zl0).trans l0
                           have e8l1 := (H8.out.cell (p := ⟨bf1, ny, none⟩) zl1).trans l1
                           clear hb8)
                        | (go_at_call 68
                           refine (rnode_any (m : Int) (n : Int) (s0 : Int) _ ⟨yt, (u0 : Int)⟩ _ ⟨_, _, _, rfl⟩ HMV.out.1 HMV.out.2.2).mono ?_
                           rintro e w9 ⟨rfl, hb9⟩
                           rw [HNy.out.1]
                           have H9 := Lib.hid (bthen H8.out hb9 H8.out.size)
                           have e9g0 := (H9.out.cell (p := ⟨w.heap.size, 0, none⟩) zG7).trans g0
                           have e9g1 := (H9.out.cell (p := ⟨w.heap.size, 1, none⟩) zG7).trans g1
                           have e9g2 := (H9.out.cell (p := ⟨w.heap.size, 2, none⟩) zG7).trans g2
                           have e9g3 := (H9.out.cell (p := ⟨w.heap.size, 3, none⟩) zG7).trans g3
                           have e9r1c := (H9.out.cell (p := ⟨wi.heap.size, 1, none⟩) zR7).trans r1c
                           have e9x0 := (H9.out.cell (p := ⟨bx, ox + p * 2, none⟩) zX7).trans x0
                           have e9x1 := (H9.out.cell (p := ⟨bx, ox + p * 2 + 1, none⟩) zX7).trans x1
                           have e9y0c := (H9.out.cell (p := ⟨bx, ox + k * 2, none⟩) zX7).trans y0c
                           have e9y1c := (H9.out.cell (p := ⟨bx, ox + k * 2 + 1, none⟩) zX7).trans y1c
                           have e9l0 := (H9.out.cell (p := ⟨bf2, nx, none⟩) zl0).trans l0
                           have e9l1 := (H9.out.cell (p := ⟨bf1, ny, none⟩) zl1).trans l1
                           clear hb9))
                      have HR9 := Lib.hid (HR7.out.below H9.out)
                      have HH9 := Lib.hid (HH7.out.below H9.out)
                      have HQ9 := Lib.hid (HQ7.out.below H9.out)
                      have HT9 : Hid (TabIs (m + 1) (PT (FolC ⟨(m : Int), (n : Int), (s0 : Int), rs⟩ m (Cm j p k)) (Qp ⟨(m : Int), (n : Int), (s0 : Int), rs⟩ m nx ny) 0 0) fk) := Lib.hid (HTk.out.congr (fun a t _ _ => PT.none a t))
                      clear e8g0 e8g1 e8g2 e8g3 e8r1c e8x0 e8x1 e8y0c e8y1c e8l0 e8l1 e9g0 e9g1 e9g2 e9g3 e9r1c e9x0 e9x1 e9y0c e9y1c e9l0 e9l1 g0 g1 g2 g3 r1c l0 l1 x0 x1 y0c y1c zG7 zR7 zl0 zl1 zX7
                      go_wp2_with fail
                      go_loopw [123] (fun i wr => FwA (FwH ⟨(m : Int), (n : Int), (s0 : Int), rs⟩ m n (some ⟨bq, oq, none⟩) c L inn f1 f2 nb ib bf1 bf2 bs1 bs2 w4.heap.size w) (FwQ wi.heap.size y0 (some ⟨bx, ox, none⟩) cq qr S) m n w4.heap.size bs (FolC ⟨(m : Int), (n : Int), (s0 : Int), rs⟩ m (Cm j p k)) (Qp ⟨(m : Int), (n : Int), (s0 : Int), rs⟩ m nx ny) i wr) (fun i _ => n - (intOf i).toNat)
                      case atStart => exact ⟨0, fk, Nat.zero_le _, rfl, HR9.out, HT9.out, HH9.out, HQ9.out⟩
                      case round =>
                        obtain ⟨wa, hwa⟩ : ∃ wa : World, wa = wr := ⟨_, rfl⟩
                        subst hwa
                        obtain ⟨a, fa, han, rfl, hR, hT, hH, hQ⟩ := hrel
                        have HRa := Lib.hid hR
                        have HTa := Lib.hid hT
                        have HHa := Lib.hid hH
                        have HQa := Lib.hid hQ
                        have g0 : wa.cell? ⟨w.heap.size, 0, none⟩ = some (.int .i64 (m : Int)) := hH.G.cell 0
                        have zGa := hH.G.lt
                        clear hR hT hH hQ
                        by_cases ha : a < n
                        · have ha0 : (0 : Int) ≤ (a : Int) := by omega
                          have ha9 : (a : Int) < (n : Int) := by omega
                          go_wp2_with fail
                          clear g0
                          go_loopw [128] (fun i wr => FwT (FwH ⟨(m : Int), (n : Int), (s0 : Int), rs⟩ m n (some ⟨bq, oq, none⟩) c L inn f1 f2 nb ib bf1 bf2 bs1 bs2 w4.heap.size w) (FwQ wi.heap.size y0 (some ⟨bx, ox, none⟩) cq qr S) m n w4.heap.size bs (FolC ⟨(m : Int), (n : Int), (s0 : Int), rs⟩ m (Cm j p k)) (Qp ⟨(m : Int), (n : Int), (s0 : Int), rs⟩ m nx ny) a i wr) (fun i _ => m - (intOf i).toNat)
                          case atStart => exact ⟨0, fa, Nat.zero_le _, rfl, HRa.out, HTa.out, HHa.out, HQa.out⟩
                          case round =>
                            obtain ⟨wt, hwt⟩ : ∃ wt : World, wt = wr := ⟨_, rfl⟩
                            subst hwt
                            obtain ⟨t, ft, htm, rfl, hR, hT, hH, hQ⟩ := hrel
                            have HRt := Lib.hid hR
                            have HTt := Lib.hid hT
                            have HHt := Lib.hid hH
                            have HQt := Lib.hid hQ
                            clear hR hT hH hQ
                            by_cases ht : t < m
                            · have ht0 : (0 : Int) ≤ (t : Int) := by omega
                              have ht9 : (t : Int) < (m : Int) := by omega
                              have ht99 : (t : Int) < (m : Int) + 1 := by omega
                              have htn9 : (t : Int) < (m : Int) + (n : Int) := by omega
                              have hma0 : 0 ≤ (m : Int) + (a : Int) := by omega
                              have hma9 : (m : Int) + (a : Int) < (m : Int) + (n : Int) := by omega
                              have hmat : ((m : Int) + (a : Int)).toNat = m + a := by omega
                              have hmaw : IntKind.i64.wrap ((m : Int) + (a : Int)) = (m : Int) + (a : Int) := IntWalk.i64_in _ (by omega)
                              obtain ⟨ba, hba⟩ := get_some (show a < bs.length by rw [HRt.out.blen]; exact ha)
                              obtain ⟨ra, hra⟩ := get_some (show a < ft.length by rw [HRt.out.flen]; exact ha)
                              have hBa := HRt.out.rows a ba ra hba hra
                              obtain ⟨x, hx⟩ := get_some (show t < ra.length by have := hBa.2; omega)
                              obtain ⟨la, hla⟩ := get_some (show m + a < r2.length by have := HRows.out.1.2.2.2; omega)
                              obtain ⟨fb, hfb⟩ := get_some (show t < r1.length by have := HRows.out.2.2.2.2; omega)
                              have hB2 := (HHt.out.F2.rows nx b2 r2 HRows.out.1.1 HRows.out.1.2.1).1
                              have hB1 := (HHt.out.F1.rows ny b1 r1 HRows.out.2.1 HRows.out.2.2.1).1
                              have c0 : wt.cell? ⟨w4.heap.size, a, none⟩ = some (.slice (some ⟨ba, 0, none⟩) (m + 1) (m + 1)) := HRt.out.outer a ba hba
                              have c1 : wt.cell? ⟨ba, t, none⟩ = some (.bool x) := (hBa.1.cell _).trans (bcells_get hx)
                              have c2 : wt.cell? ⟨w.heap.size, 0, none⟩ = some (.int .i64 (m : Int)) := HHt.out.G.cell 0
                              have c3 : wt.cell? ⟨b2, m + a, none⟩ = some (.bool la) := (hB2.cell _).trans (bcells_get hla)
                              have c4 : wt.cell? ⟨b1, t, none⟩ = some (.bool fb) := (hB1.cell _).trans (bcells_get hfb)
                              have f1c := hBa.1.frozen t
                              have z0 := HRt.out.bflt
                              have z1 := hBa.1.lt
                              have z2 := HHt.out.G.lt
                              have z3 := hB2.lt
                              have z4 := hB1.lt
                              have hbm := List.mem_of_getElem? hba
                              have hbg := HBi.out ba hbm
                              have n0 : ¬ w4.heap.size = ba := by omega
                              have n2 : ¬ w.heap.size = ba := by have := HHt.out.lt.1; omega
                              have n3 : ¬ b2 = ba := by have := HHt.out.lt.2.2.2.2 b2 (by simp [List.mem_of_getElem? HRows.out.1.1]); omega
                              have HK : Hid (∀ v, Kept (fun b => b = ba) wt (wt.setCell ⟨ba, t, none⟩ (.bool v))) := Lib.hid (fun v => (Kept.refl (fun b => b = ba) wt).setCell (p := ⟨ba, t, none⟩) (.inl rfl) _)
                              have HV : Hid ((x || (la && fb)) = true ↔ PT (FolC ⟨(m : Int), (n : Int), (s0 : Int), rs⟩ m (Cm j p k)) (Qp ⟨(m : Int), (n : Int), (s0 : Int), rs⟩ m nx ny) a (t + 1) a t) := Lib.hid (PT.here (by
                                have h := (HTt.out a ra hra).2 t (by omega)
                                rw [hx] at h
                                rw [← h]
                                simp) (by
                                have h2 := HM2.out nx (m + a) hnxN
                                have h1 := HM1.out ny t hnyN
                                unfold Gt at h1 h2
                                rw [HRows.out.1.2.2.1, hla] at h2
                                rw [HRows.out.2.2.2.1, hfb] at h1
                                unfold Qp
                                rw [← WkB.first, ← h1, ← h2]
                                simp [ht]))
                              have HNew : Hid (∀ v, v = (x || (la && fb)) → FwT (FwH ⟨(m : Int), (n : Int), (s0 : Int), rs⟩ m n (some ⟨bq, oq, none⟩) c L inn f1 f2 nb ib bf1 bf2 bs1 bs2 w4.heap.size w) (FwQ wi.heap.size y0 (some ⟨bx, ox, none⟩) cq qr S) m n w4.heap.size bs (FolC ⟨(m : Int), (n : Int), (s0 : Int), rs⟩ m (Cm j p k)) (Qp ⟨(m : Int), (n : Int), (s0 : Int), rs⟩ m nx ny) a (.int .i64 ((t + 1 : Nat) : Int)) (wt.setCell ⟨ba, t, none⟩ (.bool v)).drew) := Lib.hid (fun v hv => by
                                subst hv
                                exact ⟨t + 1, _, ht, rfl, HRt.out.setRow hba (HK.out _).drew (by rw [← bcells_set]; exact (hBa.1.set_ t _).drew) (by rw [List.length_set]; exact hBa.2), HTt.out.setAt hra (by omega) (fun a' t' _ h => PT.far a' t' h) HV.out, HHt.out.kept (HK.out _).drew (fun b hb => by omega), HQt.out.kept (HK.out _).drew (by omega) (fun b hb e => hbg.2.2 (e ▸ hb))⟩)
                              have HS0 : Hid (∀ v, (wt.setCell ⟨ba, t, none⟩ (.bool v)).cell? ⟨w4.heap.size, a, none⟩ = some (.slice (some ⟨ba, 0, none⟩) (m + 1) (m + 1)) ∧ (wt.setCell ⟨ba, t, none⟩ (.bool v)).cell? ⟨ba, t, none⟩ = some (.bool v) ∧ (wt.setCell ⟨ba, t, none⟩ (.bool v)).cell? ⟨w.heap.size, 0, none⟩ = some (.int .i64 (m : Int)) ∧ (wt.setCell ⟨ba, t, none⟩ (.bool v)).cell? ⟨b2, m + a, none⟩ = some (.bool la)) := Lib.hid (fun v =>
                                ⟨((HK.out v).cell (p := ⟨w4.heap.size, a, none⟩) z0 n0).trans c0, ((hBa.1.set_ t (.bool v)).cell t).trans (by
                                  rw [bcells_set]
                                  exact bcells_get (by rw [List.getElem?_set, if_pos rfl, if_pos (List.getElem?_eq_some_iff.1 hx).1])), ((HK.out v).cell (p := ⟨w.heap.size, 0, none⟩) z2 n2).trans c2, ((HK.out v).cell (p := ⟨b2, m + a, none⟩) z3 n3).trans c3⟩)
                              clear hba hra hBa hx hla hfb hB2 hB1 hbm hbg n0 n2 n3
                              cases x
                              · cases la
                                · go_wp2_with fail
                                  refine wp_region_noPanic ?_
                                  refine wp_region_held_drew (S := (fun w' => w'.cell? ⟨w4.heap.size, a, none⟩ = some (.slice (some ⟨ba, 0, none⟩) (m + 1) (m + 1)) ∧ w'.cell? ⟨ba, t, none⟩ = some (.bool false) ∧ w'.cell? ⟨w.heap.size, 0, none⟩ = some (.int .i64 (m : Int)) ∧ w'.cell? ⟨b2, m + a, none⟩ = some (.bool false))) (by kernel_rfl) ?hl (fun hHeld => ?bl)
                                  case hl => ((try dsimp only); go_keep)
                                  refine take_run (i := 0) (v := ?vl0) rfl (by kernel_rfl) (by kernel_rfl) (by kernel_rfl) (fun _ _ _ h => h) (by rfl) ?yl0 (by assumption) ?rl0
                                  case yl0 => (intro w hSw; (try dsimp only at hSw); go_simp; try with_reducible rfl)
                                  try simp only [Act.put, List.setIfInBounds_toArray, List.set_cons_zero, List.set_cons_succ]
                                  refine take_run (i := 1) (v := ?vl1) rfl (by kernel_rfl) (by kernel_rfl) (by kernel_rfl) (fun _ _ _ h => h) (by rfl) ?yl1 (by assumption) ?rl1
                                  case yl1 => (intro w hSw; (try dsimp only at hSw); go_simp; try with_reducible rfl)
                                  try simp only [Act.put, List.setIfInBounds_toArray, List.set_cons_zero, List.set_cons_succ]
                                  refine take_run (i := 2) (v := ?vl2) rfl (by kernel_rfl) (by kernel_rfl) (by kernel_rfl) (fun _ _ _ h => h) (by rfl) ?yl2 (by assumption) ?rl2
                                  case yl2 => (intro w hSw; (try dsimp only at hSw); go_simp; try with_reducible rfl)
                                  try simp only [Act.put, List.setIfInBounds_toArray, List.set_cons_zero, List.set_cons_succ]
                                  refine take_run (i := 3) (v := ?vl3) rfl (by kernel_rfl) (by kernel_rfl) (by kernel_rfl) (fun _ _ _ h => h) (by rfl) ?yl3 (by assumption) ?rl3
                                  case yl3 => (intro w hSw; (try dsimp only at hSw); go_simp; try with_reducible rfl)
                                  try simp only [Act.put, List.setIfInBounds_toArray, List.set_cons_zero, List.set_cons_succ]
                                  refine take_run (i := 4) (v := ?vl4) rfl (by kernel_rfl) (by kernel_rfl) (by kernel_rfl) (fun _ _ _ h => h) (by rfl) ?yl4 (by assumption) ?rl4
                                  case yl4 => (intro w hSw; (try dsimp only at hSw); go_simp; try with_reducible rfl)
                                  try simp only [Act.put, List.setIfInBounds_toArray, List.set_cons_zero, List.set_cons_succ]
                                  refine take_run (i := 5) (v := ?vl5) rfl (by kernel_rfl) (by kernel_rfl) (by kernel_rfl) (fun _ _ _ h => h) (by rfl) ?yl5 (by assumption) ?rl5
                                  case yl5 => (intro w hSw; (try dsimp only at hSw); go_simp; try with_reducible rfl)
                                  try simp only [Act.put, List.setIfInBounds_toArray, List.set_cons_zero, List.set_cons_succ]
                                  refine take_run (i := 6) (v := ?vl6) rfl (by kernel_rfl) (by kernel_rfl) (by kernel_rfl) (fun _ _ _ h => h) (by rfl) ?yl6 (by assumption) ?rl6
                                  case yl6 => (intro w hSw; (try dsimp only at hSw); go_simp; try with_reducible rfl)
                                  try simp only [Act.put, List.setIfInBounds_toArray, List.set_cons_zero, List.set_cons_succ]
                                  refine take_run (i := 7) (v := ?vl7) rfl (by kernel_rfl) (by kernel_rfl) (by kernel_rfl) (fun _ _ _ h => h) (by rfl) ?yl7 (by assumption) ?rl7
                                  case yl7 => (intro w hSw; (try dsimp only at hSw); go_simp; try with_reducible rfl)
                                  try simp only [Act.put, List.setIfInBounds_toArray, List.set_cons_zero, List.set_cons_succ]
                                  refine take_run (i := 8) (v := ?vl8) rfl (by kernel_rfl) (by kernel_rfl) (by kernel_rfl) (fun _ _ _ h => h) (by rfl) ?yl8 (by assumption) ?rl8
                                  case yl8 => (intro w hSw; (try dsimp only at hSw); go_simp; try with_reducible rfl)
                                  try simp only [Act.put, List.setIfInBounds_toArray, List.set_cons_zero, List.set_cons_succ]
                                  refine take_run (i := 9) (v := ?vl9) rfl (by kernel_rfl) (by kernel_rfl) (by kernel_rfl) (fun _ _ _ h => h) (by rfl) ?yl9 (by assumption) ?rl9
                                  case yl9 => (intro w hSw; (try dsimp only at hSw); go_simp; try with_reducible rfl)
                                  try simp only [Act.put, List.setIfInBounds_toArray, List.set_cons_zero, List.set_cons_succ]
                                  refine take_run (i := 10) (v := ?vl10) rfl (by kernel_rfl) (by kernel_rfl) (by kernel_rfl) (fun _ _ _ h => h) (by rfl) ?yl10 (by assumption) ?rl10
                                  case yl10 => (intro w hSw; (try dsimp only at hSw); go_simp; try with_reducible rfl)
                                  try simp only [Act.put, List.setIfInBounds_toArray, List.set_cons_zero, List.set_cons_succ]
                                  refine take_run (i := 11) (v := ?vl11) rfl (by kernel_rfl) (by kernel_rfl) (by kernel_rfl) (fun _ _ _ h => h) (by rfl) ?yl11 (by assumption) ?rl11
                                  case yl11 => (intro w hSw; (try dsimp only at hSw); go_simp; try with_reducible rfl)
                                  try simp only [Act.put, List.setIfInBounds_toArray, List.set_cons_zero, List.set_cons_succ]
                                  refine take_run (i := 12) (v := ?vl12) rfl (by kernel_rfl) (by kernel_rfl) (by kernel_rfl) (fun _ _ _ h => h) (by rfl) ?yl12 (by assumption) ?rl12
                                  case yl12 => (intro w hSw; (try dsimp only at hSw); go_simp; try with_reducible rfl)
                                  try simp only [Act.put, List.setIfInBounds_toArray, List.set_cons_zero, List.set_cons_succ]
                                  refine take_run (i := 13) (v := ?vl13) rfl (by kernel_rfl) (by kernel_rfl) (by kernel_rfl) (fun _ _ _ h => h) (by rfl) ?yl13 (by assumption) ?rl13
                                  case yl13 => (intro w hSw; (try dsimp only at hSw); go_simp; try with_reducible rfl)
                                  try simp only [Act.put, List.setIfInBounds_toArray, List.set_cons_zero, List.set_cons_succ]
                                  refine take_run (i := 14) (v := ?vl14) rfl (by kernel_rfl) (by kernel_rfl) (by kernel_rfl) (fun _ _ _ h => h) (by rfl) ?yl14 (by assumption) ?rl14
                                  case yl14 => (intro w hSw; (try dsimp only at hSw); go_simp; try with_reducible rfl)
                                  try simp only [Act.put, List.setIfInBounds_toArray, List.set_cons_zero, List.set_cons_succ]
                                  refine take_run (i := 15) (v := ?vl15) rfl (by kernel_rfl) (by kernel_rfl) (by kernel_rfl) (fun _ _ _ h => h) (by rfl) ?yl15 (by assumption) ?rl15
                                  case yl15 => (intro w hSw; (try dsimp only at hSw); go_simp; try with_reducible rfl)
                                  try simp only [Act.put, List.setIfInBounds_toArray, List.set_cons_zero, List.set_cons_succ]
                                  refine take_run (i := 16) (v := ?vl16) rfl (by kernel_rfl) (by kernel_rfl) (by kernel_rfl) (fun _ _ _ h => h) (by rfl) ?yl16 (by assumption) ?rl16
                                  case yl16 => (intro w hSw; (try dsimp only at hSw); go_simp; try with_reducible rfl)
                                  try simp only [Act.put, List.setIfInBounds_toArray, List.set_cons_zero, List.set_cons_succ]
                                  refine take_run (i := 17) (v := ?vl17) rfl (by kernel_rfl) (by kernel_rfl) (by kernel_rfl) (fun _ _ _ h => h) (by rfl) ?yl17 (by assumption) ?rl17
                                  case yl17 => (intro w hSw; (try dsimp only at hSw); go_simp; try with_reducible rfl)
                                  try simp only [Act.put, List.setIfInBounds_toArray, List.set_cons_zero, List.set_cons_succ]
                                  refine take_run (i := 18) (v := ?vl18) rfl (by kernel_rfl) (by kernel_rfl) (by kernel_rfl) (fun _ _ _ h => h) (by rfl) ?yl18 (by assumption) ?rl18
                                  case yl18 => (intro w hSw; (try dsimp only at hSw); go_simp; try with_reducible rfl)
                                  try simp only [Act.put, List.setIfInBounds_toArray, List.set_cons_zero, List.set_cons_succ]
                                  refine take_run (i := 19) (v := ?vl19) rfl (by kernel_rfl) (by kernel_rfl) (by kernel_rfl) (fun _ _ _ h => h) (by rfl) ?yl19 (by assumption) ?rl19
                                  case yl19 => (intro w hSw; (try dsimp only at hSw); go_simp; try with_reducible rfl)
                                  try simp only [Act.put, List.setIfInBounds_toArray, List.set_cons_zero, List.set_cons_succ]
                                  refine take_run (i := 20) (v := ?vl20) rfl (by kernel_rfl) (by kernel_rfl) (by kernel_rfl) (fun _ _ _ h => h) (by rfl) ?yl20 (by assumption) ?rl20
                                  case yl20 => (intro w hSw; (try dsimp only at hSw); go_simp; try with_reducible rfl)
                                  try simp only [Act.put, List.setIfInBounds_toArray, List.set_cons_zero, List.set_cons_succ]
                                  refine take_bar (i := 21) rfl (by kernel_rfl) (by kernel_rfl) (by kernel_rfl) (fun _ _ _ h => h) (by rfl) (by assumption) ?_
                                  try simp only [Act.put, List.setIfInBounds_toArray, List.set_cons_zero, List.set_cons_succ]
                                  refine take_bar (i := 22) rfl (by kernel_rfl) (by kernel_rfl) (by kernel_rfl) (fun _ _ _ h => h) (by rfl) (by assumption) ?_
                                  try simp only [Act.put, List.setIfInBounds_toArray, List.set_cons_zero, List.set_cons_succ]
                                  refine take_bar (i := 23) rfl (by kernel_rfl) (by kernel_rfl) (by kernel_rfl) (fun _ _ _ h => h) (by rfl) (by assumption) ?_
                                  try simp only [Act.put, List.setIfInBounds_toArray, List.set_cons_zero, List.set_cons_succ]
                                  refine take_bar (i := 24) rfl (by kernel_rfl) (by kernel_rfl) (by kernel_rfl) (fun _ _ _ h => h) (by rfl) (by assumption) ?_
                                  try simp only [Act.put, List.setIfInBounds_toArray, List.set_cons_zero, List.set_cons_succ]
                                  refine take_run (i := 25) (v := ?vl25) rfl (by kernel_rfl) (by kernel_rfl) (by kernel_rfl) (fun _ _ _ h => h) (by rfl) ?yl25 (by assumption) ?rl25
                                  case yl25 => (intro w hSw; (try dsimp only at hSw); go_simp; try with_reducible rfl)
                                  try simp only [Act.put, List.setIfInBounds_toArray, List.set_cons_zero, List.set_cons_succ]
                                  refine take_run (i := 26) (v := ?vl26) rfl (by kernel_rfl) (by kernel_rfl) (by kernel_rfl) (fun _ _ _ h => h) (by rfl) ?yl26 (by assumption) ?rl26
                                  case yl26 => (intro w hSw; (try dsimp only at hSw); go_simp; try with_reducible rfl)
                                  try simp only [Act.put, List.setIfInBounds_toArray, List.set_cons_zero, List.set_cons_succ]
                                  refine take_run (i := 27) (v := ?vl27) rfl (by kernel_rfl) (by kernel_rfl) (by kernel_rfl) (fun _ _ _ h => h) (by rfl) ?yl27 (by assumption) ?rl27
                                  case yl27 => (intro w hSw; (try dsimp only at hSw); go_simp; try with_reducible rfl)
                                  try simp only [Act.put, List.setIfInBounds_toArray, List.set_cons_zero, List.set_cons_succ]
                                  refine take_call (i := 28) rfl (by kernel_rfl) (by rfl) (fun K hK => ?_)
                                  go_simp
                                  refine hK.out _ _ ?hl28 (fun hHeld => ?rl28)
                                  case hl28 => exact HS0.out _
                                  clear hK K
                                  try simp only [Act.put, List.setIfInBounds_toArray, List.set_cons_zero, List.set_cons_succ]
                                  refine wpAnyH_done (by kernel_rfl) ?_ _
                                  refine NoPanic.normal ?_
                                  go_wp2_with fail
                                  go_roundw
                                  case rel => exact HNew.out _ rfl
                                  case measure => simp [intOf]; omega
                                · go_wp2_with fail
                                  go_still_tail 28, (by kernel_rfl)
                                  change wpList _ _ _ _ _ wt.drew
                                  go_wp2_with fail
                                  go_roundw
                                  case rel => exact HNew.out _ (by simp)
                                  case measure => simp [intOf]; omega
                              · go_wp2_with fail
                                refine wp_region_noPanic ?_
                                refine wp_region_held_drew (S := (fun w' => w'.cell? ⟨w4.heap.size, a, none⟩ = some (.slice (some ⟨ba, 0, none⟩) (m + 1) (m + 1)) ∧ w'.cell? ⟨ba, t, none⟩ = some (.bool true) ∧ w'.cell? ⟨w.heap.size, 0, none⟩ = some (.int .i64 (m : Int)) ∧ w'.cell? ⟨b2, m + a, none⟩ = some (.bool la))) (by kernel_rfl) ?hx (fun hHeld => ?bx)
                                case hx => ((try dsimp only); go_keep)
                                refine take_run (i := 0) (v := ?vx0) rfl (by kernel_rfl) (by kernel_rfl) (by kernel_rfl) (fun _ _ _ h => h) (by rfl) ?yx0 (by assumption) ?rx0
                                case yx0 => (intro w hSw; (try dsimp only at hSw); go_simp; try with_reducible rfl)
                                try simp only [Act.put, List.setIfInBounds_toArray, List.set_cons_zero, List.set_cons_succ]
                                refine take_run (i := 1) (v := ?vx1) rfl (by kernel_rfl) (by kernel_rfl) (by kernel_rfl) (fun _ _ _ h => h) (by rfl) ?yx1 (by assumption) ?rx1
                                case yx1 => (intro w hSw; (try dsimp only at hSw); go_simp; try with_reducible rfl)
                                try simp only [Act.put, List.setIfInBounds_toArray, List.set_cons_zero, List.set_cons_succ]
                                refine take_run (i := 2) (v := ?vx2) rfl (by kernel_rfl) (by kernel_rfl) (by kernel_rfl) (fun _ _ _ h => h) (by rfl) ?yx2 (by assumption) ?rx2
                                case yx2 => (intro w hSw; (try dsimp only at hSw); go_simp; try with_reducible rfl)
                                try simp only [Act.put, List.setIfInBounds_toArray, List.set_cons_zero, List.set_cons_succ]
                                refine take_run (i := 3) (v := ?vx3) rfl (by kernel_rfl) (by kernel_rfl) (by kernel_rfl) (fun _ _ _ h => h) (by rfl) ?yx3 (by assumption) ?rx3
                                case yx3 => (intro w hSw; (try dsimp only at hSw); go_simp; try with_reducible rfl)
                                try simp only [Act.put, List.setIfInBounds_toArray, List.set_cons_zero, List.set_cons_succ]
                                refine take_run (i := 4) (v := ?vx4) rfl (by kernel_rfl) (by kernel_rfl) (by kernel_rfl) (fun _ _ _ h => h) (by rfl) ?yx4 (by assumption) ?rx4
                                case yx4 => (intro w hSw; (try dsimp only at hSw); go_simp; try with_reducible rfl)
                                try simp only [Act.put, List.setIfInBounds_toArray, List.set_cons_zero, List.set_cons_succ]
                                refine take_run (i := 5) (v := ?vx5) rfl (by kernel_rfl) (by kernel_rfl) (by kernel_rfl) (fun _ _ _ h => h) (by rfl) ?yx5 (by assumption) ?rx5
                                case yx5 => (intro w hSw; (try dsimp only at hSw); go_simp; try with_reducible rfl)
                                try simp only [Act.put, List.setIfInBounds_toArray, List.set_cons_zero, List.set_cons_succ]
                                refine take_run (i := 6) (v := ?vx6) rfl (by kernel_rfl) (by kernel_rfl) (by kernel_rfl) (fun _ _ _ h => h) (by rfl) ?yx6 (by assumption) ?rx6
                                case yx6 => (intro w hSw; (try dsimp only at hSw); go_simp; try with_reducible rfl)
                                try simp only [Act.put, List.setIfInBounds_toArray, List.set_cons_zero, List.set_cons_succ]
                                refine take_run (i := 7) (v := ?vx7) rfl (by kernel_rfl) (by kernel_rfl) (by kernel_rfl) (fun _ _ _ h => h) (by rfl) ?yx7 (by assumption) ?rx7
                                case yx7 => (intro w hSw; (try dsimp only at hSw); go_simp; try with_reducible rfl)
                                try simp only [Act.put, List.setIfInBounds_toArray, List.set_cons_zero, List.set_cons_succ]
                                refine take_run (i := 8) (v := ?vx8) rfl (by kernel_rfl) (by kernel_rfl) (by kernel_rfl) (fun _ _ _ h => h) (by rfl) ?yx8 (by assumption) ?rx8
                                case yx8 => (intro w hSw; (try dsimp only at hSw); go_simp; try with_reducible rfl)
                                try simp only [Act.put, List.setIfInBounds_toArray, List.set_cons_zero, List.set_cons_succ]
                                refine take_run (i := 9) (v := ?vx9) rfl (by kernel_rfl) (by kernel_rfl) (by kernel_rfl) (fun _ _ _ h => h) (by rfl) ?yx9 (by assumption) ?rx9
                                case yx9 => (intro w hSw; (try dsimp only at hSw); go_simp; try with_reducible rfl)
                                try simp only [Act.put, List.setIfInBounds_toArray, List.set_cons_zero, List.set_cons_succ]
                                refine take_run (i := 10) (v := ?vx10) rfl (by kernel_rfl) (by kernel_rfl) (by kernel_rfl) (fun _ _ _ h => h) (by rfl) ?yx10 (by assumption) ?rx10
                                case yx10 => (intro w hSw; (try dsimp only at hSw); go_simp; try with_reducible rfl)
                                try simp only [Act.put, List.setIfInBounds_toArray, List.set_cons_zero, List.set_cons_succ]
                                refine take_run (i := 11) (v := ?vx11) rfl (by kernel_rfl) (by kernel_rfl) (by kernel_rfl) (fun _ _ _ h => h) (by rfl) ?yx11 (by assumption) ?rx11
                                case yx11 => (intro w hSw; (try dsimp only at hSw); go_simp; try with_reducible rfl)
                                try simp only [Act.put, List.setIfInBounds_toArray, List.set_cons_zero, List.set_cons_succ]
                                refine take_run (i := 12) (v := ?vx12) rfl (by kernel_rfl) (by kernel_rfl) (by kernel_rfl) (fun _ _ _ h => h) (by rfl) ?yx12 (by assumption) ?rx12
                                case yx12 => (intro w hSw; (try dsimp only at hSw); go_simp; try with_reducible rfl)
                                try simp only [Act.put, List.setIfInBounds_toArray, List.set_cons_zero, List.set_cons_succ]
                                refine take_bar (i := 13) rfl (by kernel_rfl) (by kernel_rfl) (by kernel_rfl) (fun _ _ _ h => h) (by rfl) (by assumption) ?_
                                try simp only [Act.put, List.setIfInBounds_toArray, List.set_cons_zero, List.set_cons_succ]
                                refine take_bar (i := 14) rfl (by kernel_rfl) (by kernel_rfl) (by kernel_rfl) (fun _ _ _ h => h) (by rfl) (by assumption) ?_
                                try simp only [Act.put, List.setIfInBounds_toArray, List.set_cons_zero, List.set_cons_succ]
                                refine take_bar (i := 15) rfl (by kernel_rfl) (by kernel_rfl) (by kernel_rfl) (fun _ _ _ h => h) (by rfl) (by assumption) ?_
                                try simp only [Act.put, List.setIfInBounds_toArray, List.set_cons_zero, List.set_cons_succ]
                                refine take_bar (i := 16) rfl (by kernel_rfl) (by kernel_rfl) (by kernel_rfl) (fun _ _ _ h => h) (by rfl) (by assumption) ?_
                                try simp only [Act.put, List.setIfInBounds_toArray, List.set_cons_zero, List.set_cons_succ]
                                refine take_bar (i := 17) rfl (by kernel_rfl) (by kernel_rfl) (by kernel_rfl) (fun _ _ _ h => h) (by rfl) (by assumption) ?_
                                try simp only [Act.put, List.setIfInBounds_toArray, List.set_cons_zero, List.set_cons_succ]
                                refine take_bar (i := 18) rfl (by kernel_rfl) (by kernel_rfl) (by kernel_rfl) (fun _ _ _ h => h) (by rfl) (by assumption) ?_
                                try simp only [Act.put, List.setIfInBounds_toArray, List.set_cons_zero, List.set_cons_succ]
                                refine take_bar (i := 19) rfl (by kernel_rfl) (by kernel_rfl) (by kernel_rfl) (fun _ _ _ h => h) (by rfl) (by assumption) ?_
                                try simp only [Act.put, List.setIfInBounds_toArray, List.set_cons_zero, List.set_cons_succ]
                                refine take_bar (i := 20) rfl (by kernel_rfl) (by kernel_rfl) (by kernel_rfl) (fun _ _ _ h => h) (by rfl) (by assumption) ?_
                                try simp only [Act.put, List.setIfInBounds_toArray, List.set_cons_zero, List.set_cons_succ]
                                refine take_bar (i := 21) rfl (by kernel_rfl) (by kernel_rfl) (by kernel_rfl) (fun _ _ _ h => h) (by rfl) (by assumption) ?_
                                try simp only [Act.put, List.setIfInBounds_toArray, List.set_cons_zero, List.set_cons_succ]
                                refine take_bar (i := 22) rfl (by kernel_rfl) (by kernel_rfl) (by kernel_rfl) (fun _ _ _ h => h) (by rfl) (by assumption) ?_
                                try simp only [Act.put, List.setIfInBounds_toArray, List.set_cons_zero, List.set_cons_succ]
                                refine take_bar (i := 23) rfl (by kernel_rfl) (by kernel_rfl) (by kernel_rfl) (fun _ _ _ h => h) (by rfl) (by assumption) ?_
                                try simp only [Act.put, List.setIfInBounds_toArray, List.set_cons_zero, List.set_cons_succ]
                                refine take_bar (i := 24) rfl (by kernel_rfl) (by kernel_rfl) (by kernel_rfl) (fun _ _ _ h => h) (by rfl) (by assumption) ?_
                                try simp only [Act.put, List.setIfInBounds_toArray, List.set_cons_zero, List.set_cons_succ]
                                refine take_bar (i := 25) rfl (by kernel_rfl) (by kernel_rfl) (by kernel_rfl) (fun _ _ _ h => h) (by rfl) (by assumption) ?_
                                try simp only [Act.put, List.setIfInBounds_toArray, List.set_cons_zero, List.set_cons_succ]
                                refine take_run (i := 26) (v := ?vx26) rfl (by kernel_rfl) (by kernel_rfl) (by kernel_rfl) (fun _ _ _ h => h) (by rfl) ?yx26 (by assumption) ?rx26
                                case yx26 => (intro w hSw; (try dsimp only at hSw); go_simp; try with_reducible rfl)
                                try simp only [Act.put, List.setIfInBounds_toArray, List.set_cons_zero, List.set_cons_succ]
                                refine take_run (i := 27) (v := ?vx27) rfl (by kernel_rfl) (by kernel_rfl) (by kernel_rfl) (fun _ _ _ h => h) (by rfl) ?yx27 (by assumption) ?rx27
                                case yx27 => (intro w hSw; (try dsimp only at hSw); go_simp; try with_reducible rfl)
                                try simp only [Act.put, List.setIfInBounds_toArray, List.set_cons_zero, List.set_cons_succ]
                                refine take_call (i := 28) rfl (by kernel_rfl) (by rfl) (fun K hK => ?_)
                                go_simp
                                refine hK.out _ _ ?hx28 (fun hHeld => ?rx28)
                                case hx28 => exact HS0.out _
                                clear hK K
                                try simp only [Act.put, List.setIfInBounds_toArray, List.set_cons_zero, List.set_cons_succ]
                                refine wpAnyH_done (by kernel_rfl) ?_ _
                                refine NoPanic.normal ?_
                                go_wp2_with fail
                                go_roundw
                                case rel => exact HNew.out _ rfl
                                case measure => simp [intOf]; omega
                            · have htt : t = m := by omega
                              have HTn : Hid (TabIs (m + 1) (PT (FolC ⟨(m : Int), (n : Int), (s0 : Int), rs⟩ m (Cm j p k)) (Qp ⟨(m : Int), (n : Int), (s0 : Int), rs⟩ m nx ny) (a + 1) 0) ft) := Lib.hid (HTt.out.congr (fun a' t' _ _ => by rw [htt]; exact PT.next (fun a t h => h.1) a' t'))
                              clear htt
                              go_wp2_with fail
                              go_roundw
                              case rel => exact ⟨a + 1, ft, ha, by go_num, HRt.out, HTn.out, HHt.out, HQt.out⟩
                              case measure => simp [intOf]; omega
                        · have haa : a = n := by omega
                          have HTn : Hid (TabIs (m + 1) (FolC ⟨(m : Int), (n : Int), (s0 : Int), rs⟩ m (Cm j p (k + 1))) fa) := Lib.hid (HTa.out.congr (fun a' t' ha' _ => by
                            rw [haa]
                            exact (PT.all (by rw [← HRa.out.flen]; exact ha')).trans (by
                              have h := HHit.out a' t'
                              rw [HNx.out.2, HNy.out.2] at h
                              exact h.symm)))
                          clear haa g0
                          go_wp2_with fail
                          go_roundw
                          case rel => exact ⟨k + 1, fa, by omega, hkl, by go_num, HRa.out, HTn.out, HHa.out, HQa.out⟩
                          case measure => simp [intOf]; omega
                · have HTn : Hid (TabIs (m + 1) (FolC ⟨(m : Int), (n : Int), (s0 : Int), rs⟩ m (Cm j (p + 1) 0)) fk) := Lib.hid (HTk.out.congr (fun a t _ _ => (FolC.nexti HQ.out.1 (by dsimp only; omega)).symm))
                  go_wp2_with fail
                  go_roundw
                  case rel => exact ⟨p + 1, fk, hpl, by go_num, HRk.out, HTn.out, HHk.out, HQk.out⟩
                  case measure => simp [intOf]; omega
            · have HTn : Hid (TabIs (m + 1) (FolC ⟨(m : Int), (n : Int), (s0 : Int), rs⟩ m (Cm (j + 1) 0 0)) fp) := Lib.hid (HTz.out.congr (fun a t _ _ => (FolC.nextj HQ.out.1 (by dsimp only; omega)).symm))
              go_wp2_with fail
              go_roundw
              case rel => exact ⟨j + 1, fp, hlt, by go_num, HRz.out, HTn.out, HHz.out⟩
              case measure => simp [intOf]; omega
        · have HTn : Hid (TabIs (m + 1) (FolR ⟨(m : Int), (n : Int), (s0 : Int), rs⟩ m) f) := Lib.hid (HT.out.congr (fun a t _ _ => FolC.all (by dsimp only; omega)))
          have HBe := Lib.hid HHi.out.bel
          have HOl : Hid (w.heap.size < w4.heap.size) := Lib.hid HHi.out.lt.1
          go_wp2_with fail
          go_ret
          exact ⟨w4.heap.size, bs, f, rfl, HR.out, HTn.out, fun b hb => by
            have := HOl.out
            rcases List.mem_cons.1 hb with rfl | hb
            · omega
            · have := HBs.out b hb; omega, HBe.out⟩
end Go.Proofs.YtbboceklkjfimaaDoor
