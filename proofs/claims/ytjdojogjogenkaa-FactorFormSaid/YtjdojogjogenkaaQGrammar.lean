/- Contract: parlmake.Grammar makes a valid grammar, in memory of its own. -/
import Derived.Test.YtjdojogjogenkaaQp1
import Derived.Test.YtjdojogjogenkaaQw1
import Derived.Deep.RegionLaw
import Derived.Deep.DeepCutAuto
namespace Go.Proofs.Ytjdojogjogenkaa
open Go.RowKit
set_option linter.unusedVariables false
def SymOk (t n : Int) (s : Sym) : Prop := 0 ≤ s.n ∧ s.n < if s.term then t else n
def RuleOk (t n : Int) (r : Rule) : Prop := 0 ≤ r.left ∧ r.left < n ∧ r.right.length ≤ 3 ∧ ∀ s ∈ r.right, SymOk t n s
def Made (g : Gram) : Prop :=
 1 ≤ g.terms ∧ g.terms ≤ 3 ∧ 1 ≤ g.nons ∧ g.nons ≤ 4 ∧ 0 ≤ g.start ∧ g.start < g.nons ∧ 1 ≤ g.rules.length ∧ g.rules.length ≤ 8 ∧ g.rules.Nodup ∧ ∀ r ∈ g.rules, RuleOk g.terms g.nons r
def RetGram (w : World) (e : Ending) (w' : World) : Prop :=
 ∃ (g : Gram) (v : Value), Made g ∧ e = .returned v ∧ Vl w' (fun b => w.heap.size ≤ b ∧ b < w'.heap.size) g v ∧ Below w.heap.size w w'
def OuterI (S : Nat → Prop) (w : World) (G : Nat) (t n s cnt : Int) (i : Value) (wr : World) : Prop :=
 ∃ (k : Nat) (rs : List Rule) (vrs : Value), (k : Int) ≤ cnt ∧ i = .int .i64 k ∧ Below w.heap.size w wr ∧ StreamAt S wr (w.heap.size + 1) ∧
  Blk' wr w.heap.size 25 #[.int .i64 0, .int .i64 0, .int .i64 0, .slice none 0 0] ∧ w.heap.size + 2 ≤ G ∧ Blk' wr G 25 #[.int .i64 t, .int .i64 n, .int .i64 s, vrs] ∧
  Own wr (fun _ => False) (G + 1) 33 vrs rs ∧ rs.length ≤ k ∧ rs.Nodup ∧ (0 < k → 0 < rs.length) ∧ ∀ r ∈ rs, RuleOk t n r
def InnerI (S : Nat → Prop) (G : Nat) (wq : World) (t n l cnt : Int) (i : Value) (wr : World) : Prop :=
 ∃ (m : Nat) (right : List Sym) (vr : Value), (m : Int) ≤ cnt ∧ i = .int .i64 m ∧ wq.grownBy wr (some G) ∧ StreamAt S wr G ∧ Blk' wr wq.heap.size 33 #[.int .i64 l, vr] ∧
  Own wr (fun _ => False) (wq.heap.size + 1) 35 vr right ∧ right.length ≤ m ∧ ∀ s ∈ right, SymOk t n s
theorem inner_next {S : Nat → Prop} {G : Nat} {wq w8 w9 : World} {t n l cnt : Int} {m : Nat} {right : List Sym} {vr v' : Value} {x : Sym} {o : Obj}
  (hGq : G < wq.heap.size) (hSG : ∀ b, S b → b < wq.heap.size) (hm : (m : Int) < cnt) (h8 : wq.grownBy w8 (some G)) (hs8 : StreamAt S w8 G) (h9 : (w8.alloc o).grownBy w9 vr.ownBlock)
  (hvr : ∀ k, vr.ownBlock = some k → wq.heap.size + 1 ≤ k) (hc9 : Blk' w9 wq.heap.size 33 #[.int .i64 l, vr]) (hown : Own w9 (fun _ => False) (wq.heap.size + 1) 35 v' (right ++ [x]))
  (hl : right.length ≤ m) (hok : ∀ s ∈ right, SymOk t n s) (hx : SymOk t n x) : InnerI S G wq t n l cnt (.int .i64 ((m : Int) + 1)) (w9.setCell ⟨wq.heap.size, 1, none⟩ v') := by
 have hz := h8.size
 refine ⟨m + 1, right ++ [x], v', by omega, by go_num, ?_, ?_, ?_, ?_, by simp; omega, fun s hs => ?_⟩
 ·exact only_setCell (only_then (only_alloc h8 o) h9 (.inr fun k hk => by have := hvr k hk; omega)) (.inr (Nat.le_refl _)) _
 ·refine StreamAt.setCell ((hs8.alloc o trivial).grown h9 (fun e => by have := hvr G e.symm; omega) (fun k hk hS => by have := hvr k hk; have := hSG k hS; omega)) (by simp; omega) (fun h => by have := hSG _ h; simp at this) _
 ·exact hc9.set_ 1 v'
 ·exact hown.setCell (fun e => by have := (hown.block _ e).1; simp at this; omega) (by simp) _
 ·rcases List.mem_append.1 hs with h | h
  ·exact hok s h
  ·simp at h; subst h; exact hx
set_option maxRecDepth 100000 in
set_option maxHeartbeats 4000000 in
theorem grammar_any (A : Option Addr) (c : Nat) (xs : List Int) (S : Nat → Prop) (w : World) (h1 : xs.length ≤ c) (h2 : c ≤ 9223372036854775807) (hA : Els w S xs A) (hS : ∀ b, S b → b < w.heap.size) :
  Calls Try.prog 7 #[.slice A xs.length c] w (RetGram w) := by
 have hS1 : ¬ S (w.heap.size + 1) := fun h => by have := hS _ h; omega
 go_enter Try.func7, Try.ntmps7
 go_wp2_with fail
 have hst : ∀ o1 o2, StreamAt S ((w.alloc o1).alloc (.cells #[.slice A xs.length c] o2)) (w.heap.size + 1) := fun o1 o2 =>
  ⟨xs, A, c, (Blk'.new' (g := w.heap.size + 1) _ _ _ (by simp)).cell 0, (Blk'.new' (g := w.heap.size + 1) _ _ _ (by simp)).frozen 0, h1, h2, hA.below (((Below.refl _ _).alloc (Nat.le_refl _) _).alloc (by simp) _)⟩
 refine (next_any S _ 3 _ (by omega) (by omega) hS1 (hst _ _)).mono ?_
 rintro e w1 ⟨r1, p1, q1, rfl, hs1, hg1⟩
 have hb1 : Below w.heap.size w w1 := (((Below.refl w.heap.size w).alloc (Nat.le_refl _) _).alloc (by simp) _).grown hg1 (by simp; omega) (by intro k hk; injection hk with hk; omega)
 have hR1 : Blk' w1 w.heap.size 25 #[.int .i64 0, .int .i64 0, .int .i64 0, .slice none 0 0] := ((Blk'.new w _ _).alloc _).grown hg1 (by simp)
 have hz1 : w.heap.size + 2 ≤ w1.heap.size := by have := hg1.size; simpa using this
 have HB1 := Lib.hid hb1
 have HR1 := Lib.hid hR1
 have HS1 := Lib.hid hs1
 clear hb1 hR1 hs1 hg1 hst
 go_wp2_with fail
 refine (next_any S _ 4 _ (by omega) (by omega) hS1 HS1.out).mono ?_
 rintro e w2 ⟨r2, p2, q2, rfl, hs2, hg2⟩
 have hb2 : Below w.heap.size w w2 := HB1.out.grown hg2 HB1.out.size (by intro k hk; injection hk with hk; omega)
 have hR2 := HR1.out.grown hg2 (by simp)
 have hz2 : w.heap.size + 2 ≤ w2.heap.size := Nat.le_trans hz1 hg2.size
 have HB2 := Lib.hid hb2
 have HR2 := Lib.hid hR2
 have HS2 := Lib.hid hs2
 clear hb2 hR2 hs2 hg2 hz1 HB1 HR1 HS1
 go_wp2_with fail
 have hG2 : Blk' (w2.alloc (.cells #[.int .i64 (1 + r1), .int .i64 (1 + r2), .int .i64 0, .slice none 0 0] 25)) w2.heap.size 25 #[.int .i64 (1 + r1), .int .i64 (1 + r2), .int .i64 0, .slice none 0 0] := Blk'.new _ _ _
 have hS2' : StreamAt S (w2.alloc (.cells #[.int .i64 (1 + r1), .int .i64 (1 + r2), .int .i64 0, .slice none 0 0] 25)) (w.heap.size + 1) := HS2.out.alloc _ trivial
 refine (next_any S _ _ _ (by omega) (by omega) hS1 hS2').mono ?_
 rintro e w3 ⟨r3, p3, q3, rfl, hs3, hg3⟩
 have HG2 := Lib.hid hG2
 have hb3 : Below w.heap.size w w3 := (HB2.out.alloc HB2.out.size _).grown hg3 (by simp; omega) (by intro k hk; injection hk with hk; omega)
 have hR3 := (HR2.out.alloc _).grown hg3 (by simp)
 have hG3 := HG2.out.grown hg3 (by simp; omega)
 have g2 : w3.cell? ⟨w2.heap.size, 2, none⟩ = some (.int .i64 0) := hG3.cell 2
 have f2 : w3.frozen? ⟨w2.heap.size, 2, none⟩ = false := hG3.frozen 2
 have hz3 : w2.heap.size + 1 ≤ w3.heap.size := by have := hg3.size; simpa using this
 have HB3 := Lib.hid hb3
 have HR3 := Lib.hid hR3
 have HG3 := Lib.hid hG3
 have HS3 := Lib.hid hs3
 clear hb3 hR3 hG3 hs3 hg3 HG2 hG2 hS2' HB2 HR2 HS2
 go_wp2_with fail
 have hS4 : StreamAt S (w3.setCell ⟨w2.heap.size, 2, none⟩ (.int .i64 r3)) (w.heap.size + 1) := HS3.out.setCell (by simp; omega) (fun h => by have := hS _ h; simp at this; omega) _
 refine (next_any S _ 8 _ (by omega) (by omega) hS1 hS4).mono ?_
 rintro e w5 ⟨r4, p4, q4, rfl, hs5, hg5⟩
 have hb5 : Below w.heap.size w w5 := (HB3.out.setCell (p := ⟨w2.heap.size, 2, none⟩) (by simp; omega) _).grown hg5 (by have := HB3.out.size; simp; omega) (by intro k hk; injection hk with hk; omega)
 have hR5 := (HR3.out.far (p := ⟨w2.heap.size, 2, none⟩) (by simp; omega) (.int .i64 r3)).grown hg5 (by simp)
 have hG5 := (HG3.out.set_ 2 (.int .i64 r3)).grown hg5 (by simp; omega)
 have hz5 : w2.heap.size + 1 ≤ w5.heap.size := by have := hg5.size; simp at this; omega
 have HB5 := Lib.hid hb5
 have HR5 := Lib.hid hR5
 have HG5 := Lib.hid hG5
 have HS5 := Lib.hid hs5
 clear hb5 hR5 hG5 hs5 hg5 HB3 HR3 HG3 HS3 hS4 g2 f2
 go_wp2
 go_loopw [24] (fun i wr => OuterI S w w2.heap.size (1 + r1) (1 + r2) r3 (1 + r4) i wr) (fun i _ => (1 + r4).toNat - (intOf i).toNat)
 case atStart => exact ⟨0, [], _, by simp; omega, rfl, HB5.out, HS5.out, HR5.out, hz2, HG5.out, Own.nil _ _ _ _, by simp, by simp, by simp, by simp⟩
 case round =>
  obtain ⟨wo, hwo⟩ : ∃ wo : World, wo = wr := ⟨_, rfl⟩
  subst hwo
  obtain ⟨k, rs, vrs, hk, rfl, hb, hs, hR, _, hG, hown, hl, hnd, hpos, hok⟩ := hrel
  have c0 : wo.cell? ⟨w2.heap.size, 0, none⟩ = some (.int .i64 (1 + r1)) := hG.cell 0
  have c1 : wo.cell? ⟨w2.heap.size, 1, none⟩ = some (.int .i64 (1 + r2)) := hG.cell 1
  have HB := Lib.hid hb
  have HR := Lib.hid hR
  have HG := Lib.hid hG
  have HS := Lib.hid hs
  have HO := Lib.hid hown
  have HK := Lib.hid (And.intro hl (And.intro hnd (And.intro hpos hok)))
  clear hb hs hR hG hown hl hnd hpos hok HB5 HR5 HG5 HS5
  by_cases hlt : (k : Int) < 1 + r4
  ·go_wp2_with fail
   refine (next_any S _ (1 + r2) _ (by omega) (by omega) hS1 HS.out).mono ?_
   rintro e wq ⟨l, hl0, hl1, rfl, hsq, hgq⟩
   have hbq : Below w.heap.size w wq := HB.out.grown hgq HB.out.size (by intro k hk; injection hk with hk; omega)
   have hRq := HR.out.grown hgq (by simp)
   have hGq := HG.out.grown hgq (by simp; omega)
   have hOq := HO.out.grown hgq (fun k hk => by injection hk with hk; subst hk; exact ⟨fun e => by have := (HO.out.block _ e).1; omega, by simp; omega⟩)
   have HBq := Lib.hid hbq
   have HRq := Lib.hid hRq
   have HGq := Lib.hid hGq
   have HOq := Lib.hid hOq
   have hzq : w2.heap.size + 1 ≤ wq.heap.size := by have := hGq.lt; omega
   have hSq : StreamAt S (wq.alloc (.cells #[.int .i64 l, .slice none 0 0] 33)) (w.heap.size + 1) := hsq.alloc _ trivial
   clear hbq hRq hGq hOq hgq hsq HB HR HG HO HS c0 c1
   go_wp2_with fail
   refine (next_any S _ 4 _ (by omega) (by omega) hS1 hSq).mono ?_
   rintro e w6 ⟨r6, p6, q6, rfl, hs6, hg6⟩
   have ho6 : wq.grownBy w6 (some (w.heap.size + 1)) := only_then (only_alloc (World.grownBy.refl wq _) _) hg6 (.inl rfl)
   have hB6 : Blk' w6 wq.heap.size 33 #[.int .i64 l, .slice none 0 0] := (Blk'.new wq _ _).grown hg6 (by simp; omega)
   have Ho6 := Lib.hid ho6
   have HB6 := Lib.hid hB6
   have HS6 := Lib.hid hs6
   clear ho6 hB6 hs6 hg6 hSq
   go_wp2
   go_loopw [33] (fun i wr => InnerI S (w.heap.size + 1) wq (1 + r1) (1 + r2) l r6 i wr) (fun i _ => r6.toNat - (intOf i).toNat)
   case atStart => exact ⟨0, [], _, by simp; omega, rfl, Ho6.out, HS6.out, HB6.out, Own.nil _ _ _ _, by simp, by simp⟩
   case round =>
    obtain ⟨wi, hwi⟩ : ∃ wi : World, wi = wr := ⟨_, rfl⟩
    subst hwi
    obtain ⟨m, right, vr, hm, rfl, hoi, hsi, hBi, hOi, hrl, hrok⟩ := hrel
    have Hoi := Lib.hid hoi
    have HSi := Lib.hid hsi
    have HBi := Lib.hid hBi
    have HOi := Lib.hid hOi
    have HRk := Lib.hid hrok
    clear hoi hsi hBi hOi hrok Ho6 HB6 HS6
    by_cases hlm : (m : Int) < r6
    ·go_wp2_with fail
     refine (next_any S _ 2 _ (by omega) (by omega) hS1 HSi.out).mono ?_
     rintro e w7 ⟨r7, p7, q7, rfl, hs7, hg7⟩
     have hB7 := HBi.out.grown hg7 (by simp; omega)
     have hO7 := HOi.out.grown hg7 (fun k hk => by injection hk with hk; subst hk; exact ⟨fun e => by have := (HOi.out.block _ e).1; omega, by simp; omega⟩)
     have hG7 := (HGq.out.grown Hoi.out (by simp; omega)).grown hg7 (by simp; omega)
     have c70 : w7.cell? ⟨w2.heap.size, 0, none⟩ = some (.int .i64 (1 + r1)) := hG7.cell 0
     have c71 : w7.cell? ⟨w2.heap.size, 1, none⟩ = some (.int .i64 (1 + r2)) := hG7.cell 1
     have c75 : w7.cell? ⟨wq.heap.size, 1, none⟩ = some vr := hB7.cell 1
     have ho7 : wq.grownBy w7 (some (w.heap.size + 1)) := only_then Hoi.out hg7 (.inl rfl)
     have hS7d : StreamAt S w7.drew (w.heap.size + 1) := hs7.below (Below.refl w7.heap.size w7).drew (Nat.le_refl _)
     have hz7 : wq.heap.size + 1 ≤ w7.heap.size := by have := hB7.lt; omega
     have HNO : Hid (∀ k, some (w.heap.size + 1) = some k → vr.ownBlock ≠ some k ∧ ¬ (False ∨ wq.heap.size + 1 ≤ k)) := Lib.hid (fun k hk => by injection hk with hk; subst hk; exact ⟨fun e => by have := (HOi.out.block _ e).1; omega, by simp; omega⟩)
     have HB7 := Lib.hid hB7
     have HO7 := Lib.hid hO7
     have HG7 := Lib.hid hG7
     have Ho7 := Lib.hid ho7
     clear hB7 hO7 hG7 hs7 hg7 ho7 HBi HOi HSi Hoi
     by_cases h7 : r7 = 0
     ·subst h7
      go_wp2_with fail
      go_region_law
       (first
       | (go_simp; go_at_call 21; refine (next_any S _ (1 + r1) _ (by omega) (by omega) hS1 hS7d).mono ?_; rintro e w8 ⟨r8, p8, q8, rfl, hs8, hg8⟩; have hB8 := (HB7.out.drew).grown hg8 (by simp; omega); have c8 := hB8.cell 1; have z8 : wq.heap.size + 1 ≤ w8.heap.size := hB8.lt; have z80 : wq.heap.size < w8.heap.size := hB8.lt; have HB8 := Lib.hid hB8; have HO8 := Lib.hid ((HO7.out.drew).grown hg8 HNO.out); have HN8 := Lib.hid (own_ne HO8.out); have HI8 : Hid (I64 r8) := Lib.hid ⟨by omega, by omega⟩; have H8 := Lib.hid (And.intro hs8 (And.intro hg8 (And.intro p8 q8))); clear hB8 hs8 hg8; simp at c8)
       | (refine step_own1 _ (by rfl) _ _ elemSym (by rfl) (by rfl) (HO8.out.alloc _) ⟨true, r8⟩ [.bool true, .int .i64 r8] (by rfl) (At.new _ _ _) ⟨rfl, HI8.out⟩ (by omega) (by omega) (by simp; omega) ?_; intro v' w9 hown9 hg9 hat9; obtain ⟨A9, k9, hv9, _⟩ := hown9.form; rw [snoc_len] at hv9; subst hv9; have hc9 := (HB8.out.alloc (.cells #[.bool true, .int .i64 r8] 35)).grown hg9 (HN8.out); have hd9 := hc9.cell 1; have he9 := hc9.frozen 1; have H9 := Lib.hid (And.intro hown9 (And.intro hg9 hc9)); clear hown9 hg9 hat9 hc9; simp at hd9))
      all_goals
       clear c70 c71 c75
       go_wp2
       go_roundw
       case rel => exact inner_next (by omega) (fun b hb => by have := hS b hb; omega) hlm (only_then (only_drew Ho7.out) H8.out.2.1 (.inl rfl)) H8.out.1 H9.out.2.1 (fun k hk => (HO8.out.block k hk).1) H9.out.2.2 H9.out.1 hrl HRk.out ⟨H8.out.2.2.1, by simpa using H8.out.2.2.2⟩
       case measure => simp [intOf]; omega
     ·have h7' : (r7 == 0) = false := by simpa using h7
      clear h7
      go_wp2_with fail
      go_region_law
       (first
       | (go_simp; go_at_call 21; refine (next_any S _ (1 + r2) _ (by omega) (by omega) hS1 hS7d).mono ?_; rintro e w8 ⟨r8, p8, q8, rfl, hs8, hg8⟩; have hB8 := (HB7.out.drew).grown hg8 (by simp; omega); have c8 := hB8.cell 1; have z8 : wq.heap.size + 1 ≤ w8.heap.size := hB8.lt; have z80 : wq.heap.size < w8.heap.size := hB8.lt; have HB8 := Lib.hid hB8; have HO8 := Lib.hid ((HO7.out.drew).grown hg8 HNO.out); have HN8 := Lib.hid (own_ne HO8.out); have HI8 : Hid (I64 r8) := Lib.hid ⟨by omega, by omega⟩; have H8 := Lib.hid (And.intro hs8 (And.intro hg8 (And.intro p8 q8))); clear hB8 hs8 hg8; simp at c8)
       | (refine step_own1 _ (by rfl) _ _ elemSym (by rfl) (by rfl) (HO8.out.alloc _) ⟨false, r8⟩ [.bool false, .int .i64 r8] (by rfl) (At.new _ _ _) ⟨rfl, HI8.out⟩ (by omega) (by omega) (by simp; omega) ?_; intro v' w9 hown9 hg9 hat9; obtain ⟨A9, k9, hv9, _⟩ := hown9.form; rw [snoc_len] at hv9; subst hv9; have hc9 := (HB8.out.alloc (.cells #[.bool false, .int .i64 r8] 35)).grown hg9 (HN8.out); have hd9 := hc9.cell 1; have he9 := hc9.frozen 1; have H9 := Lib.hid (And.intro hown9 (And.intro hg9 hc9)); clear hown9 hg9 hat9 hc9; simp at hd9))
      all_goals
       clear c70 c71 c75
       go_wp2
       go_roundw
       case rel => exact inner_next (by omega) (fun b hb => by have := hS b hb; omega) hlm (only_then (only_drew Ho7.out) H8.out.2.1 (.inl rfl)) H8.out.1 H9.out.2.1 (fun k hk => (HO8.out.block k hk).1) H9.out.2.2 H9.out.1 hrl HRk.out ⟨H8.out.2.2.1, by simpa using H8.out.2.2.2⟩
       case measure => simp [intOf]; omega
    ·have hO10 := HOq.out.grown Hoi.out (fun k hk => by injection hk with hk; subst hk; exact ⟨fun e => by have := (HOq.out.block _ e).1; omega, by simp; omega⟩)
     have hG10 := HGq.out.grown Hoi.out (by simp; omega)
     have hR10 := HRq.out.grown Hoi.out (by simp)
     have hB10 : Below w.heap.size w wi := HBq.out.grown Hoi.out HBq.out.size (by intro k hk; injection hk with hk; omega)
     obtain ⟨Ar, cr, hvrs, hr1, hr2, _⟩ := hO10.form
     obtain ⟨Av, cv, hvr, hv1, hv2, _⟩ := HOi.out.form
     subst hvrs; subst hvr
     have hbr := Lib.hid (fun k hk => (HOq.out.block k hk).2)
     have hlk := HK.out.1
     have hcap1 : (rs.length + 1) * 32 ≤ 140737488355328 := by omega
     have hcap2 : rs.length + 1 ≤ 9223372036854775807 := by omega
     have c73 : wi.cell? ⟨w2.heap.size, 3, none⟩ = some (.slice Ar rs.length cr) := hG10.cell 3
     have c75 : wi.cell? ⟨wq.heap.size, 0, none⟩ = some (.int .i64 l) := HBi.out.cell 0
     have c76 : wi.cell? ⟨wq.heap.size, 1, none⟩ = some (.slice Av right.length cv) := HBi.out.cell 1
     have hbe := HBi.out.lt
     have hge := hG10.lt
     have E1 := Lib.hid (hO10.vl.keep (S' := fun b => b < wi.heap.size) (fun _ _ _ => rfl) (fun b hb => hb.2)).els
     have E2 := Lib.hid (HOi.out.vl.keep (S' := fun b => b < wi.heap.size) (fun _ _ _ => rfl) (fun b hb => hb.2)).els
     have hsub : wq.heap.size ≤ wi.heap.size := Hoi.out.size
     have HO10 := Lib.hid hO10
     have HG10 := Lib.hid hG10
     have HR10 := Lib.hid hR10
     have HB10 := Lib.hid hB10
     clear hO10 hG10 hR10 hB10 HOq HGq HRq HBq Hoi
     go_wp2_with fail
     refine (has_any Ar Av cr cv rs ⟨l, right⟩ (fun b => b < wi.heap.size) _ (by omega) (by show right.length ≤ _; omega) E1.out.2.2.2 E2.out.2.2.2).mono ?_
     rintro e w10 ⟨rfl, hb10⟩
     have HA := Lib.hid (And.intro (bthen HB10.out hb10 HB10.out.size) (And.intro (HSi.out.below hb10 (Nat.le_refl _)) (And.intro (HR10.out.below hb10 HR10.out.lt) (And.intro (HG10.out.below hb10 HG10.out.lt) (HO10.out.below hb10 (Nat.le_refl _))))))
     have HOv := Lib.hid (HOi.out.below hb10 (Nat.le_refl _))
     have c93 : w10.cell? ⟨w2.heap.size, 3, none⟩ = some (.slice Ar rs.length cr) := HA.out.2.2.2.1.cell 3
     have f93 : w10.frozen? ⟨w2.heap.size, 3, none⟩ = false := HA.out.2.2.2.1.frozen 3
     have hBr := HBi.out.below hb10 HBi.out.lt
     have c95 : w10.cell? ⟨wq.heap.size, 0, none⟩ = some (.int .i64 l) := hBr.cell 0
     have c96 : w10.cell? ⟨wq.heap.size, 1, none⟩ = some (.slice Av right.length cv) := hBr.cell 1
     have hz10 : w2.heap.size + 1 ≤ w10.heap.size := HA.out.2.2.2.1.lt
     clear hb10 hBr c73 c75 c76 HO10 HG10 HR10 HB10 HSi HBi HOi E1 E2
     by_cases hin : (⟨l, right⟩ : Rule) ∈ rs
     ·have hd : decide ((⟨l, right⟩ : Rule) ∈ rs) = true := by simpa using hin
      rw [hd]
      have Hin := Lib.hid hin
      clear hin hd
      go_wp2
      go_roundw
      case rel => exact ⟨k + 1, rs, _, by omega, by go_num, HA.out.1, HA.out.2.1, HA.out.2.2.1, hz2, HA.out.2.2.2.1, HA.out.2.2.2.2, by omega, HK.out.2.1, fun _ => List.length_pos_of_mem Hin.out, HK.out.2.2.2⟩
      case measure => simp [intOf]; omega
     ·have hd : decide ((⟨l, right⟩ : Rule) ∈ rs) = false := by simpa using hin
      rw [hd]
      have Hin := Lib.hid hin
      clear hin hd
      have hrd : ∀ o, Dat.rd (w10.alloc o) (OwnT (fun _ => False) (w2.heap.size + 1) (.slice Ar rs.length cr) (w10.alloc o)) (⟨l, right⟩ : Rule) [.int .i64 l, .slice Av right.length cv] := fun o =>
       ⟨_, rfl, (show I64 l from ⟨by omega, by omega⟩), (HOv.out.alloc o).vl.mono (fun b hb => ⟨.inr (by have := hb.1; simp at this; omega), fun e => by have := hbr.out b e; have := hb.1; simp at this; omega, hb.2⟩)⟩
      have Hrd := Lib.hid hrd
      clear hrd
      go_wp2_with (at_builtin; refine wpList_own1 _ rfl _ _ elemRule rfl rfl (HA.out.2.2.2.2.alloc _) ⟨l, right⟩ [.int .i64 l, .slice Av right.length cv] rfl (At.new _ _ _) (Hrd.out _) hcap1 hcap2 (Nat.le_trans hz10 ((Below.refl _ _).alloc (Nat.le_refl _) _).size) ?_; intro v' w11 hown11 hg11 hat11; obtain ⟨A11, k11, hv11, _⟩ := hown11.form; rw [snoc_len] at hv11; subst hv11; have hG11 := (HA.out.2.2.2.1.alloc (.cells #[.int .i64 l, .slice Av right.length cv] 33)).grown hg11 (own_ne HA.out.2.2.2.2); have d3 := hG11.cell 3; have e3 := hG11.frozen 3; simp at d3; have H11 := Lib.hid (And.intro hown11 (And.intro hg11 hG11)); clear hown11 hg11 hat11 hG11)
      go_roundw
      case rel =>
       have hg := H11.out.2.1
       have hzs := hg.size
       refine ⟨k + 1, rs ++ [⟨l, right⟩], _, by omega, by go_num, ?_, ?_, ?_, hz2, H11.out.2.2.set_ 3 _, ?_, by simp; omega, ?_, fun _ => by simp, ?_⟩
       ·exact ((HA.out.1.alloc HA.out.1.size _).grown hg (by have := HA.out.1.size; simp; omega) (fun k hk => by have := (HA.out.2.2.2.2.block k hk).1; omega)).setCell (by show w.heap.size ≤ w2.heap.size; omega) _
       ·exact ((HA.out.2.1.alloc _ trivial).grown hg (fun e => by have := (HA.out.2.2.2.2.block _ e.symm).1; omega) (fun k hk hS' => by have := (HA.out.2.2.2.2.block k hk).1; have := hS k hS'; omega)).setCell (by show w.heap.size + 1 ≠ w2.heap.size; omega) (fun h => by have := hS _ h; simp at this; omega) _
       ·exact ((HA.out.2.2.1.alloc _).grown hg (fun e => by have := (HA.out.2.2.2.2.block _ e.symm).1; omega)).far (by show w.heap.size ≠ w2.heap.size; omega) _
       ·exact H11.out.1.setCell (fun e => by have := (H11.out.1.block _ e).1; simp at this; omega) (by simp) _
       ·exact List.nodup_append.2 ⟨HK.out.2.1, by simp, fun a ha b hb => by simp at hb; subst hb; exact fun e => Hin.out (e ▸ ha)⟩
       ·intro r hr
        rcases List.mem_append.1 hr with h | h
        ·exact HK.out.2.2.2 r h
        ·simp at h; subst h; exact ⟨hl0, hl1, by show right.length ≤ 3; omega, HRk.out⟩
      case measure => simp [intOf]; omega
  ·obtain ⟨Ar, cr, hvrs, hr1, hr2, _⟩ := HO.out.form
   subst hvrs
   have d2 : wo.cell? ⟨w2.heap.size, 2, none⟩ = some (.int .i64 r3) := HG.out.cell 2
   have d3 : wo.cell? ⟨w2.heap.size, 3, none⟩ = some (.slice Ar rs.length cr) := HG.out.cell 3
   have e0 : wo.cell? ⟨w.heap.size, 0, none⟩ = some (.int .i64 0) := HR.out.cell 0
   have e1 : wo.cell? ⟨w.heap.size, 1, none⟩ = some (.int .i64 0) := HR.out.cell 1
   have e2 : wo.cell? ⟨w.heap.size, 2, none⟩ = some (.int .i64 0) := HR.out.cell 2
   have e3 : wo.cell? ⟨w.heap.size, 3, none⟩ = some (.slice none 0 0) := HR.out.cell 3
   have f0 := HR.out.frozen 0
   have f1 := HR.out.frozen 1
   have f2 := HR.out.frozen 2
   have f3 := HR.out.frozen 3
   go_wp2
   refine bodyPost_ret (v := .agg #[.int .i64 (1 + r1), .int .i64 (1 + r2), .int .i64 r3, .slice Ar rs.length cr]) (by simp [results, Try.results7, go_sem, e0, e1, e2, e3]) rfl ?_
   have hv := HO.out.vl
   have hne : ∀ (i : Nat) (p : Addr), w2.heap.size + 1 ≤ p.block → (⟨w.heap.size, i, none⟩ : Addr) ≠ p := fun i p hp e => by rw [← e] at hp; simp at hp; omega
   refine ⟨⟨1 + r1, 1 + r2, r3, rs⟩, _, ⟨by show 1 ≤ 1 + r1; omega, by show 1 + r1 ≤ 3; omega, by show 1 ≤ 1 + r2; omega, by show 1 + r2 ≤ 4; omega, p3, q3, HK.out.2.2.1 (by omega), by show rs.length ≤ 8; have := HK.out.1; omega, HK.out.2.1, HK.out.2.2.2⟩, rfl,
    Vl.of_gram (show I64 (1 + r1) from ⟨by omega, by omega⟩) (show I64 (1 + r2) from ⟨by omega, by omega⟩) (show I64 r3 from ⟨by omega, by omega⟩) (hv.keep (fun p hp _ => ?_) (fun b hb => ?_)), ?_⟩
   ·have hp' : w2.heap.size + 1 ≤ p.block := by have := hp.1; simpa using this
    rw [World.cell?_setCell_other _ _ _ _ (hne 3 p hp'), World.cell?_setCell_other _ _ _ _ (hne 2 p hp'), World.cell?_setCell_other _ _ _ _ (hne 1 p hp'), World.cell?_setCell_other _ _ _ _ (hne 0 p hp')]
   ·refine ⟨by have := hb.1; simp at this; omega, by simpa using hb.2⟩
   ·exact (((HB.out.setCell (p := ⟨w.heap.size, 0, none⟩) (Nat.le_refl _) _).setCell (p := ⟨w.heap.size, 1, none⟩) (Nat.le_refl _) _).setCell (p := ⟨w.heap.size, 2, none⟩) (Nat.le_refl _) _).setCell (p := ⟨w.heap.size, 3, none⟩) (Nat.le_refl _) _
end Go.Proofs.Ytjdojogjogenkaa
