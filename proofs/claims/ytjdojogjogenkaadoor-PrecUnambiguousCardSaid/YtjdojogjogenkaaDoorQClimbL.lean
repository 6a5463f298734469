/- Contract: the climber's parse, of prec: the levels of infix operators. -/
import Derived.Test.YtjdojogjogenkaaDoorQClimbR
import Derived.Deep.LoopGhost
namespace Go.Proofs.YtjdojogjogenkaaDoor
open Go.RowKit
set_option linter.unusedVariables false

/-- The loop, with a bound on its rounds. -/
inductive LpN (w : List Int) (rul : Int → Int) (P : Nat → Nat → Res → Prop) (l : Level) (k : Nat) : Nat → Tree → Nat → Res → Prop where
  | stop (n : Nat) (x : Tree) (q : Nat) (hn : ∀ o, w[q]? = some o → o ∉ l.ops) : LpN w rul P l k n x q (.ok x q)
  | rej (n : Nat) (x : Tree) (q q' : Nat) (op : Int) (ho : w[q]? = some op) (hm : op ∈ l.ops) (h : P (if l.kind = 2 then k else k + 1) (q + 1) (.rej q')) : LpN w rul P l k n x q (.rej q')
  | one (n : Nat) (x y : Tree) (q q' : Nat) (op : Int) (ho : w[q]? = some op) (hm : op ∈ l.ops) (hk : l.kind ≠ 1) (h : P (if l.kind = 2 then k else k + 1) (q + 1) (.ok y q')) : LpN w rul P l k n x q (.ok ⟨rul op, 0, [x, leafT op, y]⟩ q')
  | more (n : Nat) (x y : Tree) (q q' : Nat) (op : Int) (r : Res) (ho : w[q]? = some op) (hm : op ∈ l.ops) (hk : l.kind = 1) (h : P (if l.kind = 2 then k else k + 1) (q + 1) (.ok y q')) (hr : LpN w rul P l k n ⟨rul op, 0, [x, leafT op, y]⟩ q' r) : LpN w rul P l k (n + 1) x q r
theorem Lp.num {w : List Int} {rul : Int → Int} {P : Nat → Nat → Res → Prop} {l : Level} {k : Nat} {x : Tree} {q : Nat} {r : Res} (h : Lp w rul P l k x q r) : ∃ n, LpN w rul P l k n x q r := by
  induction h with
  | stop x q a => exact ⟨0, .stop 0 x q a⟩
  | rej x q q' op a b c => exact ⟨0, .rej 0 x q q' op a b c⟩
  | one x y q q' op a b c d => exact ⟨0, .one 0 x y q q' op a b c d⟩
  | more x y q q' op r a b c d e ih => obtain ⟨n, ih⟩ := ih; exact ⟨n + 1, .more n x y q q' op r a b c d ih⟩
/-- The loop on the way: the tree so far in the variable G. -/
def LoR (t : Table) (l : List Int) (K : Nat) (A : Option Addr) (c : Nat) (B : Option Addr) (d M mn : Nat) (D : DataW Unit) (S St : Nat → Prop) (P : Nat → Nat → Res → Prop) (lv : Level) (k : Nat) (r : Res) (w : World) (G : Nat) (gk : Nat) (wr : World) : Prop :=
  ∃ (x : Tree) (q : Nat) (A9 : Option Addr) (c9 : Nat), LpN l (rulOf t) P lv k gk x q r ∧ ClW t l K A c B d M mn D S St q wr ∧ Kept (fun b => b = K) w wr ∧ Blk' wr G 27 #[.int .i64 x.rule, .int .i64 x.term, .slice A9 x.kids.length c9] ∧
    (I64 x.rule ∧ I64 x.term ∧ x.kids.length ≤ c9 ∧ c9 ≤ 9223372036854775807) ∧ Els wr (fun b => w.heap.size < b ∧ b ≠ G ∧ b < wr.heap.size) x.kids A9 ∧ Blk' wr w.heap.size 27 #[.int .i64 0, .int .i64 0, .slice none 0 0]
/-- The result's variable takes the tree. -/
theorem store_res {t : Table} {l : List Int} {K : Nat} {A : Option Addr} {c : Nat} {B : Option Addr} {d M mn : Nat} {D : DataW Unit} {S St : Nat → Prop} {p q R : Nat} {w w2 wF : World} {x : Tree} {Z : Nat → Prop} {A2 : Option Addr} {c2 : Nat} {a0 a1 a2 : Value}
    (h : ClW t l K A c B d M mn D S St p w) (f : ClF t l K M D S St) (hRw : w.heap.size ≤ R) (hZ : ∀ b, Z b → R < b ∧ b < w2.heap.size) (hE : Els w2 Z x.kids A2) (hC2 : ClW t l K A c B d M mn D S St q w2) (hk2 : Kept (fun b => b = K) w w2) (hR : Blk' w2 R 27 #[a0, a1, a2])
    (hF : wF = ((w2.setCell ⟨R, 0, none⟩ (.int .i64 x.rule)).setCell ⟨R, 1, none⟩ (.int .i64 x.term)).setCell ⟨R, 2, none⟩ (.slice A2 x.kids.length c2)) :
    (wF.cell? ⟨R, 0, none⟩ = some (.int .i64 x.rule) ∧ wF.cell? ⟨R, 1, none⟩ = some (.int .i64 x.term) ∧ wF.cell? ⟨R, 2, none⟩ = some (.slice A2 x.kids.length c2)) ∧ Els wF (fun b => w.heap.size ≤ b ∧ b < wF.heap.size) x.kids A2 ∧ ClW t l K A c B d M mn D S St q wF ∧ Kept (fun b => b = K) w wF := by
  have hKF : Kept (fun b => b = R) w2 wF := by
    rw [hF]
    exact (((Kept.refl (fun b => b = R) w2).setCell (p := ⟨R, 0, none⟩) (.inl rfl) _).setCell (p := ⟨R, 1, none⟩) (.inl rfl) _).setCell (p := ⟨R, 2, none⟩) (.inl rfl) _
  have hRF : Blk' wF R 27 #[.int .i64 x.rule, .int .i64 x.term, .slice A2 x.kids.length c2] := by
    rw [hF]
    exact ((hR.set_ 0 _).set_ 1 _).set_ 2 _
  have hz : wF.heap.size = w2.heap.size := by rw [hF]; simp [World.setCell]
  have hKw : Kept (fun b => b = K) w wF := hk2.later hKF (fun b hb => .inr (by have h1 : b = R := hb; omega))
  have zK := h.blk.lt
  refine ⟨⟨hRF.cell 0, hRF.cell 1, hRF.cell 2⟩, ?_, h.kept f hKw hC2.le (hC2.blk.kept hKF (by omega)), hKw⟩
  exact (hE.kept hKF (fun b hb (e : b = R) => by have := hZ b hb; omega)).keep (fun _ _ _ => rfl) (fun b hb => ⟨by have := hZ b hb; omega, by have := hZ b hb; omega⟩)


set_option maxRecDepth 100000 in
set_option maxHeartbeats 2000000 in
/-- A level of infix operators that associate to the right. -/
theorem parse_inf2 {t : Table} {l : List Int} {K : Nat} {A : Option Addr} {c : Nat} {B : Option Addr} {d M mn : Nat} {D : DataW Unit} {S St : Nat → Prop} {p : Nat} {w : World} (P : Nat → Nat → Res → Prop) (h : ClW t l K A c B d M mn D S St p w) (f : ClF t l K M D S St) {k : Nat} {lv : Level} (hP : ∀ (p1 : Nat) (r1 : Res) (w1 : World), P (k + 1) p1 r1 → ClW t l K A c B d M mn D S St p1 w1 → Calls Tryd.prog 115 #[.pointer (some ⟨K, 0, none⟩), .int .i64 ((k : Int) + 1)] w1 (RetP (ClW t l K A c B d M mn D S St) K r1 w1)) (hPn : ∀ (p1 : Nat) (r1 : Res) (w1 : World), P (if lv.kind = 2 then k else k + 1) p1 r1 → ClW t l K A c B d M mn D S St p1 w1 → Calls Tryd.prog 115 #[.pointer (some ⟨K, 0, none⟩), .int .i64 (k : Int)] w1 (RetP (ClW t l K A c B d M mn D S St) K r1 w1))  (hl : t.levels[k]? = some lv) (h3 : lv.kind ≠ 3) (h2 : lv.kind = 2) (x0 : Tree) (q0 : Nat) (hx : P (k + 1) p (.ok x0 q0)) (r : Res) (hr : Lp l (rulOf t) P lv k x0 q0 r) :
    Calls Tryd.prog 115 #[.pointer (some ⟨K, 0, none⟩), .int .i64 k] w (RetP (ClW t l K A c B d M mn D S St) K r w) := by
  obtain ⟨w0, hw0⟩ : ∃ w0 : World, w0 = w.alloc (.cells #[.int .i64 0, .int .i64 0, .slice none 0 0] 27) := ⟨_, rfl⟩
  have hb0 : Below w.heap.size w w0 := by rw [hw0]; exact (Below.refl _ _).alloc (Nat.le_refl _) _
  have hR0 : Blk' w0 w.heap.size 27 #[.int .i64 0, .int .i64 0, .slice none 0 0] := by rw [hw0]; exact Blk'.new w _ _
  have h0 := h.below hb0
  have HB0 := Lib.hid hb0
  have HR0 := Lib.hid hR0
  have H0 := Lib.hid h0
  have F := Lib.hid f
  have HH := Lib.hid h
  have zK : K < w0.heap.size := h0.blk.lt
  have zR : w.heap.size < w0.heap.size := hR0.lt
  have hsm := f.small
  have hle := h.le
  have zKR : K < w.heap.size := h.blk.lt
  have hll := f.lev
  have hk9 : k < t.levels.length := (List.getElem?_eq_some_iff.1 hl).1
  obtain ⟨bl, ol, rfl, lc⟩ := h0.lev hl
  have hk0 : (0 : Int) ≤ (k : Int) := by omega
  have hk99 : (k : Int) < (t.levels.length : Int) := by omega
  have hkL : ¬ (k : Int) = (t.levels.length : Int) := by omega
  have hkb : ((k : Int) == (t.levels.length : Int)) = false := by simp; omega
  have k4 : w0.cell? ⟨K, 4, none⟩ = some (.slice (some ⟨bl, ol, none⟩) t.levels.length c) := h0.blk.cell 4
  have hwr : IntKind.i64.wrap ((k : Int) + 1) = (k : Int) + 1 := IntWalk.i64_in _ (by omega)
  have h3b : (lv.kind == 3) = false := by simp [h3]
  have h2b : (lv.kind == 2) = true := by simp [h2]
  have HP0 := Lib.hid (hP p _ w0 hx h0)
  have HPn := Lib.hid hPn
  have HL := Lib.hid hl
  have H2 := Lib.hid h2
  obtain ⟨n0, hN0⟩ := hr.num
  have HN0 := Lib.hid hN0
  have HW := Lib.hid hw0
  have HK0 := Lib.hid (Kept.of_below (fun b => b = K) HB0.out)
  clear hb0 hR0 h0 h f hw0 hsm hle hP hPn hx hl hr hN0 h2 h3
  go_enter Tryd.func115, Tryd.ntmps115
  go_upto_region 1 with (fail)
  rw [← HW.out]
  go_wp2_with fail
  refine HP0.out.mono ?_
  rintro e w4 ⟨⟨A4, c4, rfl, i1, i2, i3, i4, hE4⟩, hC4, hk4⟩
  obtain ⟨w5, hw5⟩ : ∃ w5 : World, w5 = w4.alloc (.cells #[.int .i64 x0.rule, .int .i64 x0.term, .slice A4 x0.kids.length c4] 27) := ⟨_, rfl⟩
  have hb5 : Below w4.heap.size w4 w5 := by rw [hw5]; exact (Below.refl _ _).alloc (Nat.le_refl _) _
  have HG5 : Hid (Blk' w5 w4.heap.size 27 #[.int .i64 x0.rule, .int .i64 x0.term, .slice A4 x0.kids.length c4]) := Lib.hid (by rw [hw5]; exact Blk'.new w4 _ _)
  have zRG : w.heap.size < w4.heap.size := by have := hk4.size; omega
  have HC5 := Lib.hid (hC4.below hb5)
  have HK5 := Lib.hid ((HK0.out.trans hk4).below hb5)
  have HR5 := Lib.hid ((HR0.out.kept hk4 (by omega)).below hb5 zRG)
  have HI5 := Lib.hid (And.intro i1 (And.intro i2 (And.intro i3 i4)))
  have HE5 := Lib.hid ((hE4.below hb5).keep (S' := fun b => w.heap.size < b ∧ b ≠ w4.heap.size ∧ b < w5.heap.size) (fun _ _ _ => rfl) (fun b hb => ⟨by have := hb.1; omega, by have := hb.2; omega, by have := hb.2; have := hb5.size; omega⟩))
  have HW5 := Lib.hid hw5
  clear hb5 hw5 i1 i2 i3 i4 hE4 hC4 hk4 k4
  go_wp2_with fail
  rw [← HW5.out]
  go_loopg [10] n0 (fun gk v wr => LoR t l K (some ⟨bl, ol, none⟩) c B d M mn D S St P lv k r w w4.heap.size gk wr)
  case atStart =>
    exact ⟨x0, q0, A4, c4, HN0.out, HC5.out, HK5.out, HG5.out, HI5.out, HE5.out, HR5.out⟩
  case round =>
    obtain ⟨wo, hwo⟩ : ∃ wo : World, wo = wr := ⟨_, rfl⟩
    subst hwo
    obtain ⟨x, q, A9, c9, hLp, hC, hKw, hG, hX, hE, hR⟩ := hrel
    have HC := Lib.hid hC
    have HKo := Lib.hid hKw
    have HGo := Lib.hid hG
    have HX := Lib.hid hX
    have HEo := Lib.hid hE
    have HRo := Lib.hid hR
    clear hC hKw hG hX hE hR
    cases hLp with
    | stop _ _ _ hno =>
      go_wp2_with fail
      refine (op_no HC.out F.out HL.out hno).mono ?_
      rintro e w1 ⟨rfl, hb1⟩
      have hG1 := HGo.out.below hb1 HGo.out.lt
      have hR1 := HRo.out.below hb1 HRo.out.lt
      have H1 := Lib.hid (And.intro (HC.out.below hb1) (And.intro (HKo.out.below hb1) (And.intro (HEo.out.below hb1) (And.intro hR1 hb1.size))))
      have o0 : w1.cell? ⟨w4.heap.size, 0, none⟩ = some (.int .i64 x.rule) := hG1.cell 0
      have o1 : w1.cell? ⟨w4.heap.size, 1, none⟩ = some (.int .i64 x.term) := hG1.cell 1
      have o2 : w1.cell? ⟨w4.heap.size, 2, none⟩ = some (.slice A9 x.kids.length c9) := hG1.cell 2
      have s0 : w1.cell? ⟨w.heap.size, 0, none⟩ = some (.int .i64 0) := hR1.cell 0
      have s1 : w1.cell? ⟨w.heap.size, 1, none⟩ = some (.int .i64 0) := hR1.cell 1
      have s2 : w1.cell? ⟨w.heap.size, 2, none⟩ = some (.slice none 0 0) := hR1.cell 2
      have r0 := hR1.frozen 0
      have r1 := hR1.frozen 1
      have r2 := hR1.frozen 2
      have zzR : w.heap.size < w1.heap.size := hR1.lt
      clear hG1 hR1 hb1 hno
      go_wp2_with fail
      generalize hwE : World.setCell _ _ _ = wE
      obtain ⟨⟨e0, e1, e2⟩, hXe, hCe, hKe⟩ := store_res (x := x) HH.out F.out (Nat.le_refl _) (fun b hb => ⟨hb.1, by have := hb.2.2; have := H1.out.2.2.2.2; omega⟩) H1.out.2.2.1 H1.out.1 H1.out.2.1 H1.out.2.2.2.1 hwE.symm
      clear hwE
      exact bodyPost_ret (v := .agg #[.int .i64 x.rule, .int .i64 x.term, .slice A9 x.kids.length c9]) (by simp [results, Tryd.results115, go_sem, e0, e1, e2, Tree.rule, Tree.term, Tree.kids]) rfl ⟨⟨A9, c9, rfl, HX.out.1, HX.out.2.1, HX.out.2.2.1, HX.out.2.2.2, hXe⟩, hCe, hKe⟩
    | rej _ _ _ q' op ho hm h =>
      have HO := Lib.hid ho
      have HO64 := Lib.hid (els_i64 HC.out.word ho)
      have HOm := Lib.hid (show op ∈ opsL t from List.mem_flatten.2 ⟨lv.ops, List.mem_map.2 ⟨lv, List.mem_of_getElem? HL.out, rfl⟩, hm⟩)
      have HRi := Lib.hid (rulOf_i64 F.out.opsn op)
      have hp9 : q < l.length := (List.getElem?_eq_some_iff.1 ho).1
      go_wp2_with fail
      refine (op_yes HC.out F.out HL.out ho hm).mono ?_
      rintro e w1 ⟨rfl, hb1⟩
      have HH1 := Lib.hid (HC.out.below hb1)
      have HK1 := Lib.hid (HKo.out.below hb1)
      have HR1 := Lib.hid (HRo.out.below hb1 HRo.out.lt)
      have HGx1 := Lib.hid (HGo.out.below hb1 HGo.out.lt)
      have HEx1 := Lib.hid (HEo.out.below hb1)
      have HP := Lib.hid (fun w1 h1 => HPn.out (q + 1) _ w1 h h1)
      have zo1 : wo.heap.size ≤ w1.heap.size := hb1.size
      have zG1 : w4.heap.size < w1.heap.size := HGx1.out.lt
      clear hb1 ho hm h
      go_wp2_with fail
      refine (take_hit K t.terms t.atom t.opn t.cls op _ _ l _ d q S w1 F.out.small HH1.out.blk HO.out HH1.out.word).mono ?_
      rintro e w2 ⟨rfl, hK2, hk2⟩
      obtain ⟨w3, hw3⟩ : ∃ w3 : World, w3 = w2.alloc (.cells #[.int .i64 (-1), .int .i64 op, .slice none 0 0] 27) := ⟨_, rfl⟩
      have hb3 : Below w2.heap.size w2 w3 := by rw [hw3]; exact (Below.refl _ _).alloc (Nat.le_refl _) _
      have hH3 := ((HH1.out.kept F.out hk2 (show q + 1 ≤ l.length by omega) hK2).below hb3)
      have hG3 : Blk' w3 w2.heap.size 27 #[.int .i64 (-1), .int .i64 op, .slice none 0 0] := by rw [hw3]; exact Blk'.new w2 _ _
      have HK3 := Lib.hid ((HK1.out.trans hk2).below hb3)
      have hZ3 : w.heap.size < w2.heap.size := by have := HR1.out.lt; have := hk2.size; omega
      have HR3 := Lib.hid ((HR1.out.kept hk2 (by omega)).below hb3 hZ3)
      have hGx3 := ((HGx1.out.kept hk2 (by omega)).below hb3 (by have := HGx1.out.lt; have := hk2.size; omega))
      have HGx3 := Lib.hid hGx3
      have HEx3 := Lib.hid ((HEx1.out.kept hk2 (fun b hb (e : b = K) => by have := hb.1; omega)).below hb3)
      have o0 : w3.cell? ⟨w4.heap.size, 0, none⟩ = some (.int .i64 x.rule) := hGx3.cell 0
      have o1 : w3.cell? ⟨w4.heap.size, 1, none⟩ = some (.int .i64 x.term) := hGx3.cell 1
      have o2 : w3.cell? ⟨w4.heap.size, 2, none⟩ = some (.slice A9 x.kids.length c9) := hGx3.cell 2
      have zG3 : w4.heap.size < w3.heap.size := hGx3.lt
      have HW3 := Lib.hid hw3
      have H3 := Lib.hid hH3
      have HG3 := Lib.hid hG3
      have HS0 : Hid ((fun w' => w'.cell? ⟨K, 7, none⟩ = some (.map (some M)) ∧ w'.cell? ⟨w2.heap.size, 0, none⟩ = some (.int .i64 (-1)) ∧ w'.cell? ⟨w2.heap.size, 1, none⟩ = some (.int .i64 op) ∧ w'.cell? ⟨w2.heap.size, 2, none⟩ = some (.slice none 0 0) ∧ (Instr.lookup 172 (.map (some M)) (.int .i64 op) false).run Tryd.prog w' = .ok (.int .i64 (rulOf t op)) w') w3.drew) := Lib.hid (by
        have hd := hH3.below (below_drew _)
        exact ⟨hd.blk.cell 7, hG3.cell 0, hG3.cell 1, hG3.cell 2, hd.look F.out HOm.out HO64.out⟩)
      have z3 : w2.heap.size < w3.heap.size := hG3.lt
      have zG2 : w4.heap.size < w2.heap.size := by have := hk2.size; omega
      have zo3 : wo.heap.size ≤ w3.heap.size := by have := hk2.size; omega
      clear hK2 hk2 hb3 hw3 hH3 hG3
      clear hGx3
      go_wp2_with fail
      rw [← HW3.out]
      refine wp_region_held_drew (S := (fun w' => w'.cell? ⟨K, 7, none⟩ = some (.map (some M)) ∧ w'.cell? ⟨w2.heap.size, 0, none⟩ = some (.int .i64 (-1)) ∧ w'.cell? ⟨w2.heap.size, 1, none⟩ = some (.int .i64 op) ∧ w'.cell? ⟨w2.heap.size, 2, none⟩ = some (.slice none 0 0) ∧ (Instr.lookup 172 (.map (some M)) (.int .i64 op) false).run Tryd.prog w' = .ok (.int .i64 (rulOf t op)) w')) (by kernel_rfl) ?hrc (fun hHeld => ?brc)
      case hrc => exact HS0.out
      refine take_run (i := 0) (v := ?vrc0) rfl (by kernel_rfl) (by kernel_rfl) (by kernel_rfl) (fun _ _ _ h => h) (by rfl) ?yrc0 (by assumption) ?rrc0
      case yrc0 => (intro w hSw; (try dsimp only at hSw); go_simp; try with_reducible rfl)
      try simp only [Act.put, List.setIfInBounds_toArray, List.set_cons_zero, List.set_cons_succ]
      refine take_run (i := 1) (v := ?vrc1) rfl (by kernel_rfl) (by kernel_rfl) (by kernel_rfl) (fun _ _ _ h => h) (by rfl) ?yrc1 (by assumption) ?rrc1
      case yrc1 => (intro w hSw; (try dsimp only at hSw); go_simp; try with_reducible rfl)
      try simp only [Act.put, List.setIfInBounds_toArray, List.set_cons_zero, List.set_cons_succ]
      refine take_run (i := 2) (v := ?vrc2) rfl (by kernel_rfl) (by kernel_rfl) (by kernel_rfl) (fun _ _ _ h => h) (by rfl) ?yrc2 (by assumption) ?rrc2
      case yrc2 => (intro w hSw; (try dsimp only at hSw); go_simp; try with_reducible rfl)
      try simp only [Act.put, List.setIfInBounds_toArray, List.set_cons_zero, List.set_cons_succ]
      refine take_run (i := 3) (v := ?vrc3) rfl (by kernel_rfl) (by kernel_rfl) (by kernel_rfl) (fun _ _ _ h => h) (by rfl) ?yrc3 (by assumption) ?rrc3
      case yrc3 => (intro w hSw; (try dsimp only at hSw); go_simp; try with_reducible rfl)
      try simp only [Act.put, List.setIfInBounds_toArray, List.set_cons_zero, List.set_cons_succ]
      refine take_run (i := 4) (v := ?vrc4) rfl (by kernel_rfl) (by kernel_rfl) (by kernel_rfl) (fun _ _ _ h => h) (by rfl) ?yrc4 (by assumption) ?rrc4
      case yrc4 => (intro w hSw; (try dsimp only at hSw); go_simp; try with_reducible rfl)
      try simp only [Act.put, List.setIfInBounds_toArray, List.set_cons_zero, List.set_cons_succ]
      refine take_run (i := 5) (v := .int .i64 (rulOf t op)) rfl (by kernel_rfl) (by kernel_rfl) (by kernel_rfl) (fun _ _ _ h => h) (by rfl) ?yrc5 (by assumption) ?rrc5
      case yrc5 => (intro w hSw; (try dsimp only at hSw); try go_simp; first | done | omega | (simp [hSw]; done) | trace_state)
      try simp only [Act.put, List.setIfInBounds_toArray, List.set_cons_zero, List.set_cons_succ]
      refine take_run (i := 7) (v := ?vrc7) rfl (by kernel_rfl) (by kernel_rfl) (by kernel_rfl) (fun _ _ _ h => h) (by rfl) ?yrc7 (by assumption) ?rrc7
      case yrc7 => (intro w hSw; (try dsimp only at hSw); go_simp; try with_reducible rfl)
      try simp only [Act.put, List.setIfInBounds_toArray, List.set_cons_zero, List.set_cons_succ]
      refine take_run (i := 8) (v := ?vrc8) rfl (by kernel_rfl) (by kernel_rfl) (by kernel_rfl) (fun _ _ _ h => h) (by rfl) ?yrc8 (by assumption) ?rrc8
      case yrc8 => (intro w hSw; (try dsimp only at hSw); go_simp; try with_reducible rfl)
      try simp only [Act.put, List.setIfInBounds_toArray, List.set_cons_zero, List.set_cons_succ]
      refine take_run (i := 9) (v := ?vrc9) rfl (by kernel_rfl) (by kernel_rfl) (by kernel_rfl) (fun _ _ _ h => h) (by rfl) ?yrc9 (by assumption) ?rrc9
      case yrc9 => (intro w hSw; (try dsimp only at hSw); go_simp; try with_reducible rfl)
      try simp only [Act.put, List.setIfInBounds_toArray, List.set_cons_zero, List.set_cons_succ]
      refine take_two (i := 6) (j := 10) rfl rfl (by kernel_rfl) (by rfl) (by rfl) (fun Kq hK => ?oner6) (fun Kq hK => ?twor6)
      case oner6 =>
        go_simp
        refine hK.out _ _ ?hrc6 (fun hHeld => ?rrc6)
        case hrc6 => exact HS0.out
        clear hK Kq
        try simp only [Act.put, List.setIfInBounds_toArray, List.set_cons_zero, List.set_cons_succ]
        refine take_call (i := 10) rfl (by kernel_rfl) (by rfl) (fun Kq hK => ?_)
        go_simp
        go_at_call 115
        refine (HP.out _ (H3.out.below (below_drew _))).mono ?_
        rintro e w6 ⟨rfl, hC6, hk6⟩
        exact ⟨rfl, rfl, hC6, HK3.out.trans hk6.undrew⟩
      case twor6 =>
        go_simp
        go_at_call 115
        refine (HP.out _ (H3.out.below (below_drew _))).mono ?_
        rintro e w6 ⟨rfl, hC6, hk6⟩
        exact ⟨rfl, rfl, hC6, HK3.out.trans hk6.undrew⟩
    | one _ _ y _ q' op ho hm hk h =>
      have HK1b := Lib.hid hk
      clear hk
      have HO := Lib.hid ho
      have HO64 := Lib.hid (els_i64 HC.out.word ho)
      have HOm := Lib.hid (show op ∈ opsL t from List.mem_flatten.2 ⟨lv.ops, List.mem_map.2 ⟨lv, List.mem_of_getElem? HL.out, rfl⟩, hm⟩)
      have HRi := Lib.hid (rulOf_i64 F.out.opsn op)
      have hp9 : q < l.length := (List.getElem?_eq_some_iff.1 ho).1
      go_wp2_with fail
      refine (op_yes HC.out F.out HL.out ho hm).mono ?_
      rintro e w1 ⟨rfl, hb1⟩
      have HH1 := Lib.hid (HC.out.below hb1)
      have HK1 := Lib.hid (HKo.out.below hb1)
      have HR1 := Lib.hid (HRo.out.below hb1 HRo.out.lt)
      have HGx1 := Lib.hid (HGo.out.below hb1 HGo.out.lt)
      have HEx1 := Lib.hid (HEo.out.below hb1)
      have HP := Lib.hid (fun w1 h1 => HPn.out (q + 1) _ w1 h h1)
      have zo1 : wo.heap.size ≤ w1.heap.size := hb1.size
      have zG1 : w4.heap.size < w1.heap.size := HGx1.out.lt
      clear hb1 ho hm h
      go_wp2_with fail
      refine (take_hit K t.terms t.atom t.opn t.cls op _ _ l _ d q S w1 F.out.small HH1.out.blk HO.out HH1.out.word).mono ?_
      rintro e w2 ⟨rfl, hK2, hk2⟩
      obtain ⟨w3, hw3⟩ : ∃ w3 : World, w3 = w2.alloc (.cells #[.int .i64 (-1), .int .i64 op, .slice none 0 0] 27) := ⟨_, rfl⟩
      have hb3 : Below w2.heap.size w2 w3 := by rw [hw3]; exact (Below.refl _ _).alloc (Nat.le_refl _) _
      have hH3 := ((HH1.out.kept F.out hk2 (show q + 1 ≤ l.length by omega) hK2).below hb3)
      have hG3 : Blk' w3 w2.heap.size 27 #[.int .i64 (-1), .int .i64 op, .slice none 0 0] := by rw [hw3]; exact Blk'.new w2 _ _
      have HK3 := Lib.hid ((HK1.out.trans hk2).below hb3)
      have hZ3 : w.heap.size < w2.heap.size := by have := HR1.out.lt; have := hk2.size; omega
      have HR3 := Lib.hid ((HR1.out.kept hk2 (by omega)).below hb3 hZ3)
      have hGx3 := ((HGx1.out.kept hk2 (by omega)).below hb3 (by have := HGx1.out.lt; have := hk2.size; omega))
      have HGx3 := Lib.hid hGx3
      have HEx3 := Lib.hid ((HEx1.out.kept hk2 (fun b hb (e : b = K) => by have := hb.1; omega)).below hb3)
      have o0 : w3.cell? ⟨w4.heap.size, 0, none⟩ = some (.int .i64 x.rule) := hGx3.cell 0
      have o1 : w3.cell? ⟨w4.heap.size, 1, none⟩ = some (.int .i64 x.term) := hGx3.cell 1
      have o2 : w3.cell? ⟨w4.heap.size, 2, none⟩ = some (.slice A9 x.kids.length c9) := hGx3.cell 2
      have zG3 : w4.heap.size < w3.heap.size := hGx3.lt
      have HW3 := Lib.hid hw3
      have H3 := Lib.hid hH3
      have HG3 := Lib.hid hG3
      have HS0 : Hid ((fun w' => w'.cell? ⟨K, 7, none⟩ = some (.map (some M)) ∧ w'.cell? ⟨w2.heap.size, 0, none⟩ = some (.int .i64 (-1)) ∧ w'.cell? ⟨w2.heap.size, 1, none⟩ = some (.int .i64 op) ∧ w'.cell? ⟨w2.heap.size, 2, none⟩ = some (.slice none 0 0) ∧ (Instr.lookup 172 (.map (some M)) (.int .i64 op) false).run Tryd.prog w' = .ok (.int .i64 (rulOf t op)) w') w3.drew) := Lib.hid (by
        have hd := hH3.below (below_drew _)
        exact ⟨hd.blk.cell 7, hG3.cell 0, hG3.cell 1, hG3.cell 2, hd.look F.out HOm.out HO64.out⟩)
      have z3 : w2.heap.size < w3.heap.size := hG3.lt
      have zG2 : w4.heap.size < w2.heap.size := by have := hk2.size; omega
      have zo3 : wo.heap.size ≤ w3.heap.size := by have := hk2.size; omega
      clear hK2 hk2 hb3 hw3 hH3 hG3
      clear hGx3
      go_wp2_with fail
      rw [← HW3.out]
      refine wp_region_noPanic ?_
      refine wp_region_held_drew (S := (fun w' => w'.cell? ⟨K, 7, none⟩ = some (.map (some M)) ∧ w'.cell? ⟨w2.heap.size, 0, none⟩ = some (.int .i64 (-1)) ∧ w'.cell? ⟨w2.heap.size, 1, none⟩ = some (.int .i64 op) ∧ w'.cell? ⟨w2.heap.size, 2, none⟩ = some (.slice none 0 0) ∧ (Instr.lookup 172 (.map (some M)) (.int .i64 op) false).run Tryd.prog w' = .ok (.int .i64 (rulOf t op)) w')) (by kernel_rfl) ?hoc (fun hHeld => ?boc)
      case hoc => exact HS0.out
      refine take_run (i := 0) (v := ?voc0) rfl (by kernel_rfl) (by kernel_rfl) (by kernel_rfl) (fun _ _ _ h => h) (by rfl) ?yoc0 (by assumption) ?roc0
      case yoc0 => (intro w hSw; (try dsimp only at hSw); go_simp; try with_reducible rfl)
      try simp only [Act.put, List.setIfInBounds_toArray, List.set_cons_zero, List.set_cons_succ]
      refine take_run (i := 1) (v := ?voc1) rfl (by kernel_rfl) (by kernel_rfl) (by kernel_rfl) (fun _ _ _ h => h) (by rfl) ?yoc1 (by assumption) ?roc1
      case yoc1 => (intro w hSw; (try dsimp only at hSw); go_simp; try with_reducible rfl)
      try simp only [Act.put, List.setIfInBounds_toArray, List.set_cons_zero, List.set_cons_succ]
      refine take_run (i := 2) (v := ?voc2) rfl (by kernel_rfl) (by kernel_rfl) (by kernel_rfl) (fun _ _ _ h => h) (by rfl) ?yoc2 (by assumption) ?roc2
      case yoc2 => (intro w hSw; (try dsimp only at hSw); go_simp; try with_reducible rfl)
      try simp only [Act.put, List.setIfInBounds_toArray, List.set_cons_zero, List.set_cons_succ]
      refine take_run (i := 3) (v := ?voc3) rfl (by kernel_rfl) (by kernel_rfl) (by kernel_rfl) (fun _ _ _ h => h) (by rfl) ?yoc3 (by assumption) ?roc3
      case yoc3 => (intro w hSw; (try dsimp only at hSw); go_simp; try with_reducible rfl)
      try simp only [Act.put, List.setIfInBounds_toArray, List.set_cons_zero, List.set_cons_succ]
      refine take_run (i := 4) (v := ?voc4) rfl (by kernel_rfl) (by kernel_rfl) (by kernel_rfl) (fun _ _ _ h => h) (by rfl) ?yoc4 (by assumption) ?roc4
      case yoc4 => (intro w hSw; (try dsimp only at hSw); go_simp; try with_reducible rfl)
      try simp only [Act.put, List.setIfInBounds_toArray, List.set_cons_zero, List.set_cons_succ]
      refine take_run (i := 5) (v := .int .i64 (rulOf t op)) rfl (by kernel_rfl) (by kernel_rfl) (by kernel_rfl) (fun _ _ _ h => h) (by rfl) ?yoc5 (by assumption) ?roc5
      case yoc5 => (intro w hSw; (try dsimp only at hSw); try go_simp; first | done | omega | (simp [hSw]; done) | trace_state)
      try simp only [Act.put, List.setIfInBounds_toArray, List.set_cons_zero, List.set_cons_succ]
      refine take_run (i := 7) (v := ?voc7) rfl (by kernel_rfl) (by kernel_rfl) (by kernel_rfl) (fun _ _ _ h => h) (by rfl) ?yoc7 (by assumption) ?roc7
      case yoc7 => (intro w hSw; (try dsimp only at hSw); go_simp; try with_reducible rfl)
      try simp only [Act.put, List.setIfInBounds_toArray, List.set_cons_zero, List.set_cons_succ]
      refine take_run (i := 8) (v := ?voc8) rfl (by kernel_rfl) (by kernel_rfl) (by kernel_rfl) (fun _ _ _ h => h) (by rfl) ?yoc8 (by assumption) ?roc8
      case yoc8 => (intro w hSw; (try dsimp only at hSw); go_simp; try with_reducible rfl)
      try simp only [Act.put, List.setIfInBounds_toArray, List.set_cons_zero, List.set_cons_succ]
      refine take_run (i := 9) (v := ?voc9) rfl (by kernel_rfl) (by kernel_rfl) (by kernel_rfl) (fun _ _ _ h => h) (by rfl) ?yoc9 (by assumption) ?roc9
      case yoc9 => (intro w hSw; (try dsimp only at hSw); go_simp; try with_reducible rfl)
      try simp only [Act.put, List.setIfInBounds_toArray, List.set_cons_zero, List.set_cons_succ]
      refine take_two (i := 6) (j := 10) rfl rfl (by kernel_rfl) (by rfl) (by rfl) (fun Kq hK => ?oneo6) (fun Kq hK => ?twoo6)
      case oneo6 =>
        go_simp
        refine hK.out _ _ ?hoc6 (fun hHeld => ?roc6)
        case hoc6 => exact HS0.out
        clear hK Kq
        try simp only [Act.put, List.setIfInBounds_toArray, List.set_cons_zero, List.set_cons_succ]
        refine take_call (i := 10) rfl (by kernel_rfl) (by rfl) (fun Kq hK => ?_)
        go_simp
        go_at_call 115
        refine (HP.out _ (H3.out.below (below_drew _))).mono ?_
        rintro e w6 ⟨⟨A6, c6, rfl, i1, i2, i3, i4, hE6⟩, hC6, hk6⟩
        have hR6 := HR3.out.kept hk6.undrew (by omega)
        have hG6 := HG3.out.kept hk6.undrew (by omega)
        have hGx6 := HGx3.out.kept hk6.undrew (by omega)
        have HS : Hid (∀ w', Kept (fun b => b = w4.heap.size) w6 w' → (fun w' => w'.cell? ⟨K, 7, none⟩ = some (.map (some M)) ∧ w'.cell? ⟨w2.heap.size, 0, none⟩ = some (.int .i64 (-1)) ∧ w'.cell? ⟨w2.heap.size, 1, none⟩ = some (.int .i64 op) ∧ w'.cell? ⟨w2.heap.size, 2, none⟩ = some (.slice none 0 0) ∧ (Instr.lookup 172 (.map (some M)) (.int .i64 op) false).run Tryd.prog w' = .ok (.int .i64 (rulOf t op)) w') w') := Lib.hid (fun w' kR => by
          have hC' := HH.out.kept F.out ((HK3.out.trans hk6.undrew).later kR (fun b (hb : b = w4.heap.size) => .inr (by omega))) hC6.le (hC6.blk.kept kR (by omega))
          have hG' := hG6.kept kR (by omega)
          exact ⟨hC'.blk.cell 7, hG'.cell 0, hG'.cell 1, hG'.cell 2, hC'.look F.out HOm.out HO64.out⟩)
        have HE6 := Lib.hid (And.intro i1 (And.intro i2 (And.intro i3 (And.intro i4 hE6))))
        have HK6 := Lib.hid (And.intro hC6 (And.intro hk6.undrew (And.intro hR6 (And.intro hGx6 (HEx3.out.kept hk6.undrew (fun b hb (e : b = K) => by have := hb.1; omega))))))
        have p0 : w6.cell? ⟨w4.heap.size, 0, none⟩ = some (.int .i64 x.rule) := hGx6.cell 0
        have p1 : w6.cell? ⟨w4.heap.size, 1, none⟩ = some (.int .i64 x.term) := hGx6.cell 1
        have p2 : w6.cell? ⟨w4.heap.size, 2, none⟩ = some (.slice A9 x.kids.length c9) := hGx6.cell 2
        have f0 := hGx6.frozen 0
        have f1 := hGx6.frozen 1
        have f2 := hGx6.frozen 2
        have zzG : w4.heap.size < w6.heap.size := hGx6.lt
        clear i1 i2 i3 i4 hE6 hC6 hk6 hR6 hG6 hGx6 o0 o1 o2
        refine hK.out _ _ ?hod10 (fun hHeld => ?rod10)
        case hod10 => (first | exact HS.out _ (Kept.refl _ _) | exact HS.out _ ((Kept.refl _ _).alloc _) | exact HS.out _ (((((Kept.refl (fun b => b = w4.heap.size) _).setCell (p := ⟨w4.heap.size, 0, none⟩) (.inl rfl) _).setCell (p := ⟨w4.heap.size, 1, none⟩) (.inl rfl) _).setCell (p := ⟨w4.heap.size, 2, none⟩) (.inl rfl) _).alloc _))
        clear hK Kq
        try simp only [Act.put, List.setIfInBounds_toArray, List.set_cons_zero, List.set_cons_succ]
        refine take_call (i := 11) rfl (by kernel_rfl) (by rfl) (fun Kq hK => ?_)
        go_simp
        refine hK.out _ _ ?hoe11 (fun hHeld => ?roe11)
        case hoe11 => (first | exact HS.out _ (Kept.refl _ _) | exact HS.out _ ((Kept.refl _ _).alloc _) | exact HS.out _ (((((Kept.refl (fun b => b = w4.heap.size) _).setCell (p := ⟨w4.heap.size, 0, none⟩) (.inl rfl) _).setCell (p := ⟨w4.heap.size, 1, none⟩) (.inl rfl) _).setCell (p := ⟨w4.heap.size, 2, none⟩) (.inl rfl) _).alloc _))
        clear hK Kq
        try simp only [Act.put, List.setIfInBounds_toArray, List.set_cons_zero, List.set_cons_succ]
        refine take_call (i := 12) rfl (by kernel_rfl) (by rfl) (fun Kq hK => ?_)
        go_simp
        refine hK.out _ _ ?hoe12 (fun hHeld => ?roe12)
        case hoe12 => (first | exact HS.out _ (Kept.refl _ _) | exact HS.out _ ((Kept.refl _ _).alloc _) | exact HS.out _ (((((Kept.refl (fun b => b = w4.heap.size) _).setCell (p := ⟨w4.heap.size, 0, none⟩) (.inl rfl) _).setCell (p := ⟨w4.heap.size, 1, none⟩) (.inl rfl) _).setCell (p := ⟨w4.heap.size, 2, none⟩) (.inl rfl) _).alloc _))
        clear hK Kq
        try simp only [Act.put, List.setIfInBounds_toArray, List.set_cons_zero, List.set_cons_succ]
        refine take_call (i := 13) rfl (by kernel_rfl) (by rfl) (fun Kq hK => ?_)
        go_simp
        refine hK.out _ _ ?hoe13 (fun hHeld => ?roe13)
        case hoe13 => (first | exact HS.out _ (Kept.refl _ _) | exact HS.out _ ((Kept.refl _ _).alloc _) | exact HS.out _ (((((Kept.refl (fun b => b = w4.heap.size) _).setCell (p := ⟨w4.heap.size, 0, none⟩) (.inl rfl) _).setCell (p := ⟨w4.heap.size, 1, none⟩) (.inl rfl) _).setCell (p := ⟨w4.heap.size, 2, none⟩) (.inl rfl) _).alloc _))
        clear hK Kq
        try simp only [Act.put, List.setIfInBounds_toArray, List.set_cons_zero, List.set_cons_succ]
        refine wpAnyH_done (by kernel_rfl) ?_ _
        refine NoPanic.normal ?_
        generalize hwF : World.alloc _ _ = wF
        obtain ⟨⟨⟨u0, u1, u2⟩, hC, hKw⟩, hN, hz, hKF⟩ := node_fin HH.out F.out (HK3.out.trans HK6.out.2.1) HK6.out.1.blk HK6.out.1.le HK6.out.2.2.2.1 (by omega) hwF.symm
        have hGF : Blk' wF w4.heap.size 27 #[.int .i64 (rulOf t op), .int .i64 0, .slice (some ⟨w6.heap.size, 0, none⟩) 3 3] := by rw [← hwF]; exact (((HK6.out.2.2.2.1.set_ 0 _).set_ 1 _).set_ 2 _).alloc _
        clear hwF
        have z36 := HK6.out.2.1.size
        have hRF := HK6.out.2.2.1.kept hKF (by omega)
        have hEx := HK6.out.2.2.2.2.kept hKF (fun b hb (e : b = w4.heap.size) => hb.2.1 e)
        have hEy := HE6.out.2.2.2.2.kept hKF (fun b hb (e : b = w4.heap.size) => by have := hb.1; simp at this; omega)
        have hEF : Els wF (fun b => w.heap.size < b ∧ b ≠ w4.heap.size ∧ b < wF.heap.size) [x, leafT op, y] (some ⟨w6.heap.size, 0, none⟩) :=
          els_trio (cs := [_, _, _]) (ds := [_, _, _]) (fs := [_, _, _]) hN rfl (rd_node HX.out.1 HX.out.2.1 HX.out.2.2.1 HX.out.2.2.2 (hEx.keep (fun _ _ _ => rfl) (fun b hb => ⟨hb.1, hb.2.1, by have := hb.2.2; omega⟩))) (rd_leaf HO64.out) (rd_node HE6.out.1 HE6.out.2.1 HE6.out.2.2.1 HE6.out.2.2.2.1 (hEy.keep (fun _ _ _ => rfl) (fun b hb => ⟨by have := hb.1; simp at this; omega, by have := hb.1; simp at this; omega, by have := hb.2; omega⟩))) ⟨by omega, by omega, by omega⟩
        have HFin := Lib.hid (And.intro hC (And.intro hKw (And.intro hGF (And.intro hEF hRF))))
        have k1b : (lv.kind != 1) = true := by simp [HK1b.out]
        have s0 : wF.cell? ⟨w.heap.size, 0, none⟩ = some (.int .i64 0) := hRF.cell 0
        have s1 : wF.cell? ⟨w.heap.size, 1, none⟩ = some (.int .i64 0) := hRF.cell 1
        have s2 : wF.cell? ⟨w.heap.size, 2, none⟩ = some (.slice none 0 0) := hRF.cell 2
        have r0 := hRF.frozen 0
        have r1 := hRF.frozen 1
        have r2 := hRF.frozen 2
        have zzR : w.heap.size < wF.heap.size := hRF.lt
        clear hC hKw hN hKF hEx hEy hEF hRF hGF p0 p1 p2 f0 f1 f2
        go_wp2_with fail
        generalize hwE : World.setCell _ _ _ = wE
        obtain ⟨⟨e0, e1, e2⟩, hXe, hCe, hKe⟩ := store_res (x := ⟨rulOf t op, 0, [x, leafT op, y]⟩) HH.out F.out (Nat.le_refl _) (fun b hb => ⟨hb.1, hb.2.2⟩) HFin.out.2.2.2.1 HFin.out.1 HFin.out.2.1 HFin.out.2.2.2.2 hwE.symm
        clear hwE
        exact bodyPost_ret (v := .agg #[.int .i64 (rulOf t op), .int .i64 0, .slice (some ⟨w6.heap.size, 0, none⟩) 3 3]) (by simp [results, Tryd.results115, go_sem, e0, e1, e2, Tree.rule, Tree.term, Tree.kids]) rfl ⟨⟨(some ⟨w6.heap.size, 0, none⟩), 3, rfl, HRi.out, i64_0, Nat.le_refl _, by omega, hXe⟩, hCe, hKe⟩
      case twoo6 =>
        go_simp
        go_at_call 115
        refine (HP.out _ (H3.out.below (below_drew _))).mono ?_
        rintro e w6 ⟨⟨A6, c6, rfl, i1, i2, i3, i4, hE6⟩, hC6, hk6⟩
        have hR6 := HR3.out.kept hk6.undrew (by omega)
        have hG6 := HG3.out.kept hk6.undrew (by omega)
        have hGx6 := HGx3.out.kept hk6.undrew (by omega)
        have HS : Hid (∀ w', Kept (fun b => b = w4.heap.size) w6 w' → (fun w' => w'.cell? ⟨K, 7, none⟩ = some (.map (some M)) ∧ w'.cell? ⟨w2.heap.size, 0, none⟩ = some (.int .i64 (-1)) ∧ w'.cell? ⟨w2.heap.size, 1, none⟩ = some (.int .i64 op) ∧ w'.cell? ⟨w2.heap.size, 2, none⟩ = some (.slice none 0 0) ∧ (Instr.lookup 172 (.map (some M)) (.int .i64 op) false).run Tryd.prog w' = .ok (.int .i64 (rulOf t op)) w') w') := Lib.hid (fun w' kR => by
          have hC' := HH.out.kept F.out ((HK3.out.trans hk6.undrew).later kR (fun b (hb : b = w4.heap.size) => .inr (by omega))) hC6.le (hC6.blk.kept kR (by omega))
          have hG' := hG6.kept kR (by omega)
          exact ⟨hC'.blk.cell 7, hG'.cell 0, hG'.cell 1, hG'.cell 2, hC'.look F.out HOm.out HO64.out⟩)
        have HE6 := Lib.hid (And.intro i1 (And.intro i2 (And.intro i3 (And.intro i4 hE6))))
        have HK6 := Lib.hid (And.intro hC6 (And.intro hk6.undrew (And.intro hR6 (And.intro hGx6 (HEx3.out.kept hk6.undrew (fun b hb (e : b = K) => by have := hb.1; omega))))))
        have p0 : w6.cell? ⟨w4.heap.size, 0, none⟩ = some (.int .i64 x.rule) := hGx6.cell 0
        have p1 : w6.cell? ⟨w4.heap.size, 1, none⟩ = some (.int .i64 x.term) := hGx6.cell 1
        have p2 : w6.cell? ⟨w4.heap.size, 2, none⟩ = some (.slice A9 x.kids.length c9) := hGx6.cell 2
        have f0 := hGx6.frozen 0
        have f1 := hGx6.frozen 1
        have f2 := hGx6.frozen 2
        have zzG : w4.heap.size < w6.heap.size := hGx6.lt
        clear i1 i2 i3 i4 hE6 hC6 hk6 hR6 hG6 hGx6 o0 o1 o2
        refine hK.out _ _ ?hoc10 (fun hHeld => ?roc10)
        case hoc10 => (first | exact HS.out _ (Kept.refl _ _) | exact HS.out _ ((Kept.refl _ _).alloc _) | exact HS.out _ (((((Kept.refl (fun b => b = w4.heap.size) _).setCell (p := ⟨w4.heap.size, 0, none⟩) (.inl rfl) _).setCell (p := ⟨w4.heap.size, 1, none⟩) (.inl rfl) _).setCell (p := ⟨w4.heap.size, 2, none⟩) (.inl rfl) _).alloc _))
        clear hK Kq
        try simp only [Act.put, List.setIfInBounds_toArray, List.set_cons_zero, List.set_cons_succ]
        refine take_call (i := 6) rfl (by kernel_rfl) (by rfl) (fun Kq hK => ?_)
        go_simp
        refine hK.out _ _ ?hog6 (fun hHeld => ?rog6)
        case hog6 => (first | exact HS.out _ (Kept.refl _ _) | exact HS.out _ ((Kept.refl _ _).alloc _) | exact HS.out _ (((((Kept.refl (fun b => b = w4.heap.size) _).setCell (p := ⟨w4.heap.size, 0, none⟩) (.inl rfl) _).setCell (p := ⟨w4.heap.size, 1, none⟩) (.inl rfl) _).setCell (p := ⟨w4.heap.size, 2, none⟩) (.inl rfl) _).alloc _))
        clear hK Kq
        try simp only [Act.put, List.setIfInBounds_toArray, List.set_cons_zero, List.set_cons_succ]
        refine take_call (i := 11) rfl (by kernel_rfl) (by rfl) (fun Kq hK => ?_)
        go_simp
        refine hK.out _ _ ?hog11 (fun hHeld => ?rog11)
        case hog11 => (first | exact HS.out _ (Kept.refl _ _) | exact HS.out _ ((Kept.refl _ _).alloc _) | exact HS.out _ (((((Kept.refl (fun b => b = w4.heap.size) _).setCell (p := ⟨w4.heap.size, 0, none⟩) (.inl rfl) _).setCell (p := ⟨w4.heap.size, 1, none⟩) (.inl rfl) _).setCell (p := ⟨w4.heap.size, 2, none⟩) (.inl rfl) _).alloc _))
        clear hK Kq
        try simp only [Act.put, List.setIfInBounds_toArray, List.set_cons_zero, List.set_cons_succ]
        refine take_call (i := 12) rfl (by kernel_rfl) (by rfl) (fun Kq hK => ?_)
        go_simp
        refine hK.out _ _ ?hog12 (fun hHeld => ?rog12)
        case hog12 => (first | exact HS.out _ (Kept.refl _ _) | exact HS.out _ ((Kept.refl _ _).alloc _) | exact HS.out _ (((((Kept.refl (fun b => b = w4.heap.size) _).setCell (p := ⟨w4.heap.size, 0, none⟩) (.inl rfl) _).setCell (p := ⟨w4.heap.size, 1, none⟩) (.inl rfl) _).setCell (p := ⟨w4.heap.size, 2, none⟩) (.inl rfl) _).alloc _))
        clear hK Kq
        try simp only [Act.put, List.setIfInBounds_toArray, List.set_cons_zero, List.set_cons_succ]
        refine take_call (i := 13) rfl (by kernel_rfl) (by rfl) (fun Kq hK => ?_)
        go_simp
        refine hK.out _ _ ?hog13 (fun hHeld => ?rog13)
        case hog13 => (first | exact HS.out _ (Kept.refl _ _) | exact HS.out _ ((Kept.refl _ _).alloc _) | exact HS.out _ (((((Kept.refl (fun b => b = w4.heap.size) _).setCell (p := ⟨w4.heap.size, 0, none⟩) (.inl rfl) _).setCell (p := ⟨w4.heap.size, 1, none⟩) (.inl rfl) _).setCell (p := ⟨w4.heap.size, 2, none⟩) (.inl rfl) _).alloc _))
        clear hK Kq
        try simp only [Act.put, List.setIfInBounds_toArray, List.set_cons_zero, List.set_cons_succ]
        refine wpAnyH_done (by kernel_rfl) ?_ _
        refine NoPanic.normal ?_
        generalize hwF : World.alloc _ _ = wF
        obtain ⟨⟨⟨u0, u1, u2⟩, hC, hKw⟩, hN, hz, hKF⟩ := node_fin HH.out F.out (HK3.out.trans HK6.out.2.1) HK6.out.1.blk HK6.out.1.le HK6.out.2.2.2.1 (by omega) hwF.symm
        have hGF : Blk' wF w4.heap.size 27 #[.int .i64 (rulOf t op), .int .i64 0, .slice (some ⟨w6.heap.size, 0, none⟩) 3 3] := by rw [← hwF]; exact (((HK6.out.2.2.2.1.set_ 0 _).set_ 1 _).set_ 2 _).alloc _
        clear hwF
        have z36 := HK6.out.2.1.size
        have hRF := HK6.out.2.2.1.kept hKF (by omega)
        have hEx := HK6.out.2.2.2.2.kept hKF (fun b hb (e : b = w4.heap.size) => hb.2.1 e)
        have hEy := HE6.out.2.2.2.2.kept hKF (fun b hb (e : b = w4.heap.size) => by have := hb.1; simp at this; omega)
        have hEF : Els wF (fun b => w.heap.size < b ∧ b ≠ w4.heap.size ∧ b < wF.heap.size) [x, leafT op, y] (some ⟨w6.heap.size, 0, none⟩) :=
          els_trio (cs := [_, _, _]) (ds := [_, _, _]) (fs := [_, _, _]) hN rfl (rd_node HX.out.1 HX.out.2.1 HX.out.2.2.1 HX.out.2.2.2 (hEx.keep (fun _ _ _ => rfl) (fun b hb => ⟨hb.1, hb.2.1, by have := hb.2.2; omega⟩))) (rd_leaf HO64.out) (rd_node HE6.out.1 HE6.out.2.1 HE6.out.2.2.1 HE6.out.2.2.2.1 (hEy.keep (fun _ _ _ => rfl) (fun b hb => ⟨by have := hb.1; simp at this; omega, by have := hb.1; simp at this; omega, by have := hb.2; omega⟩))) ⟨by omega, by omega, by omega⟩
        have HFin := Lib.hid (And.intro hC (And.intro hKw (And.intro hGF (And.intro hEF hRF))))
        have k1b : (lv.kind != 1) = true := by simp [HK1b.out]
        have s0 : wF.cell? ⟨w.heap.size, 0, none⟩ = some (.int .i64 0) := hRF.cell 0
        have s1 : wF.cell? ⟨w.heap.size, 1, none⟩ = some (.int .i64 0) := hRF.cell 1
        have s2 : wF.cell? ⟨w.heap.size, 2, none⟩ = some (.slice none 0 0) := hRF.cell 2
        have r0 := hRF.frozen 0
        have r1 := hRF.frozen 1
        have r2 := hRF.frozen 2
        have zzR : w.heap.size < wF.heap.size := hRF.lt
        clear hC hKw hN hKF hEx hEy hEF hRF hGF p0 p1 p2 f0 f1 f2
        go_wp2_with fail
        generalize hwE : World.setCell _ _ _ = wE
        obtain ⟨⟨e0, e1, e2⟩, hXe, hCe, hKe⟩ := store_res (x := ⟨rulOf t op, 0, [x, leafT op, y]⟩) HH.out F.out (Nat.le_refl _) (fun b hb => ⟨hb.1, hb.2.2⟩) HFin.out.2.2.2.1 HFin.out.1 HFin.out.2.1 HFin.out.2.2.2.2 hwE.symm
        clear hwE
        exact bodyPost_ret (v := .agg #[.int .i64 (rulOf t op), .int .i64 0, .slice (some ⟨w6.heap.size, 0, none⟩) 3 3]) (by simp [results, Tryd.results115, go_sem, e0, e1, e2, Tree.rule, Tree.term, Tree.kids]) rfl ⟨⟨(some ⟨w6.heap.size, 0, none⟩), 3, rfl, HRi.out, i64_0, Nat.le_refl _, by omega, hXe⟩, hCe, hKe⟩
    | more n1 _ y _ q' op _ ho hm hk h hr =>
      exact absurd hk (by have := H2.out; omega)

set_option maxRecDepth 100000 in
set_option maxHeartbeats 2000000 in
/-- A level of infix operators that do not associate to the right. -/
theorem parse_infn {t : Table} {l : List Int} {K : Nat} {A : Option Addr} {c : Nat} {B : Option Addr} {d M mn : Nat} {D : DataW Unit} {S St : Nat → Prop} {p : Nat} {w : World} (P : Nat → Nat → Res → Prop) (h : ClW t l K A c B d M mn D S St p w) (f : ClF t l K M D S St) {k : Nat} {lv : Level} (hP : ∀ (p1 : Nat) (r1 : Res) (w1 : World), P (k + 1) p1 r1 → ClW t l K A c B d M mn D S St p1 w1 → Calls Tryd.prog 115 #[.pointer (some ⟨K, 0, none⟩), .int .i64 ((k : Int) + 1)] w1 (RetP (ClW t l K A c B d M mn D S St) K r1 w1)) (hPn : ∀ (p1 : Nat) (r1 : Res) (w1 : World), P (if lv.kind = 2 then k else k + 1) p1 r1 → ClW t l K A c B d M mn D S St p1 w1 → Calls Tryd.prog 115 #[.pointer (some ⟨K, 0, none⟩), .int .i64 ((k : Int) + 1)] w1 (RetP (ClW t l K A c B d M mn D S St) K r1 w1))  (hl : t.levels[k]? = some lv) (h3 : lv.kind ≠ 3) (h2 : lv.kind ≠ 2) (x0 : Tree) (q0 : Nat) (hx : P (k + 1) p (.ok x0 q0)) (r : Res) (hr : Lp l (rulOf t) P lv k x0 q0 r) :
    Calls Tryd.prog 115 #[.pointer (some ⟨K, 0, none⟩), .int .i64 k] w (RetP (ClW t l K A c B d M mn D S St) K r w) := by
  obtain ⟨w0, hw0⟩ : ∃ w0 : World, w0 = w.alloc (.cells #[.int .i64 0, .int .i64 0, .slice none 0 0] 27) := ⟨_, rfl⟩
  have hb0 : Below w.heap.size w w0 := by rw [hw0]; exact (Below.refl _ _).alloc (Nat.le_refl _) _
  have hR0 : Blk' w0 w.heap.size 27 #[.int .i64 0, .int .i64 0, .slice none 0 0] := by rw [hw0]; exact Blk'.new w _ _
  have h0 := h.below hb0
  have HB0 := Lib.hid hb0
  have HR0 := Lib.hid hR0
  have H0 := Lib.hid h0
  have F := Lib.hid f
  have HH := Lib.hid h
  have zK : K < w0.heap.size := h0.blk.lt
  have zR : w.heap.size < w0.heap.size := hR0.lt
  have hsm := f.small
  have hle := h.le
  have zKR : K < w.heap.size := h.blk.lt
  have hll := f.lev
  have hk9 : k < t.levels.length := (List.getElem?_eq_some_iff.1 hl).1
  obtain ⟨bl, ol, rfl, lc⟩ := h0.lev hl
  have hk0 : (0 : Int) ≤ (k : Int) := by omega
  have hk99 : (k : Int) < (t.levels.length : Int) := by omega
  have hkL : ¬ (k : Int) = (t.levels.length : Int) := by omega
  have hkb : ((k : Int) == (t.levels.length : Int)) = false := by simp; omega
  have k4 : w0.cell? ⟨K, 4, none⟩ = some (.slice (some ⟨bl, ol, none⟩) t.levels.length c) := h0.blk.cell 4
  have hwr : IntKind.i64.wrap ((k : Int) + 1) = (k : Int) + 1 := IntWalk.i64_in _ (by omega)
  have h3b : (lv.kind == 3) = false := by simp [h3]
  have h2b : (lv.kind == 2) = false := by simp [h2]
  have HP0 := Lib.hid (hP p _ w0 hx h0)
  have HPn := Lib.hid hPn
  have HL := Lib.hid hl
  have H2 := Lib.hid h2
  obtain ⟨n0, hN0⟩ := hr.num
  have HN0 := Lib.hid hN0
  have HW := Lib.hid hw0
  have HK0 := Lib.hid (Kept.of_below (fun b => b = K) HB0.out)
  clear hb0 hR0 h0 h f hw0 hsm hle hP hPn hx hl hr hN0 h2 h3
  go_enter Tryd.func115, Tryd.ntmps115
  go_upto_region 1 with (fail)
  rw [← HW.out]
  go_wp2_with fail
  refine HP0.out.mono ?_
  rintro e w4 ⟨⟨A4, c4, rfl, i1, i2, i3, i4, hE4⟩, hC4, hk4⟩
  obtain ⟨w5, hw5⟩ : ∃ w5 : World, w5 = w4.alloc (.cells #[.int .i64 x0.rule, .int .i64 x0.term, .slice A4 x0.kids.length c4] 27) := ⟨_, rfl⟩
  have hb5 : Below w4.heap.size w4 w5 := by rw [hw5]; exact (Below.refl _ _).alloc (Nat.le_refl _) _
  have HG5 : Hid (Blk' w5 w4.heap.size 27 #[.int .i64 x0.rule, .int .i64 x0.term, .slice A4 x0.kids.length c4]) := Lib.hid (by rw [hw5]; exact Blk'.new w4 _ _)
  have zRG : w.heap.size < w4.heap.size := by have := hk4.size; omega
  have HC5 := Lib.hid (hC4.below hb5)
  have HK5 := Lib.hid ((HK0.out.trans hk4).below hb5)
  have HR5 := Lib.hid ((HR0.out.kept hk4 (by omega)).below hb5 zRG)
  have HI5 := Lib.hid (And.intro i1 (And.intro i2 (And.intro i3 i4)))
  have HE5 := Lib.hid ((hE4.below hb5).keep (S' := fun b => w.heap.size < b ∧ b ≠ w4.heap.size ∧ b < w5.heap.size) (fun _ _ _ => rfl) (fun b hb => ⟨by have := hb.1; omega, by have := hb.2; omega, by have := hb.2; have := hb5.size; omega⟩))
  have HW5 := Lib.hid hw5
  clear hb5 hw5 i1 i2 i3 i4 hE4 hC4 hk4 k4
  go_wp2_with fail
  rw [← HW5.out]
  go_loopg [10] n0 (fun gk v wr => LoR t l K (some ⟨bl, ol, none⟩) c B d M mn D S St P lv k r w w4.heap.size gk wr)
  case atStart =>
    exact ⟨x0, q0, A4, c4, HN0.out, HC5.out, HK5.out, HG5.out, HI5.out, HE5.out, HR5.out⟩
  case round =>
    obtain ⟨wo, hwo⟩ : ∃ wo : World, wo = wr := ⟨_, rfl⟩
    subst hwo
    obtain ⟨x, q, A9, c9, hLp, hC, hKw, hG, hX, hE, hR⟩ := hrel
    have HC := Lib.hid hC
    have HKo := Lib.hid hKw
    have HGo := Lib.hid hG
    have HX := Lib.hid hX
    have HEo := Lib.hid hE
    have HRo := Lib.hid hR
    clear hC hKw hG hX hE hR
    cases hLp with
    | stop _ _ _ hno =>
      go_wp2_with fail
      refine (op_no HC.out F.out HL.out hno).mono ?_
      rintro e w1 ⟨rfl, hb1⟩
      have hG1 := HGo.out.below hb1 HGo.out.lt
      have hR1 := HRo.out.below hb1 HRo.out.lt
      have H1 := Lib.hid (And.intro (HC.out.below hb1) (And.intro (HKo.out.below hb1) (And.intro (HEo.out.below hb1) (And.intro hR1 hb1.size))))
      have o0 : w1.cell? ⟨w4.heap.size, 0, none⟩ = some (.int .i64 x.rule) := hG1.cell 0
      have o1 : w1.cell? ⟨w4.heap.size, 1, none⟩ = some (.int .i64 x.term) := hG1.cell 1
      have o2 : w1.cell? ⟨w4.heap.size, 2, none⟩ = some (.slice A9 x.kids.length c9) := hG1.cell 2
      have s0 : w1.cell? ⟨w.heap.size, 0, none⟩ = some (.int .i64 0) := hR1.cell 0
      have s1 : w1.cell? ⟨w.heap.size, 1, none⟩ = some (.int .i64 0) := hR1.cell 1
      have s2 : w1.cell? ⟨w.heap.size, 2, none⟩ = some (.slice none 0 0) := hR1.cell 2
      have r0 := hR1.frozen 0
      have r1 := hR1.frozen 1
      have r2 := hR1.frozen 2
      have zzR : w.heap.size < w1.heap.size := hR1.lt
      clear hG1 hR1 hb1 hno
      go_wp2_with fail
      generalize hwE : World.setCell _ _ _ = wE
      obtain ⟨⟨e0, e1, e2⟩, hXe, hCe, hKe⟩ := store_res (x := x) HH.out F.out (Nat.le_refl _) (fun b hb => ⟨hb.1, by have := hb.2.2; have := H1.out.2.2.2.2; omega⟩) H1.out.2.2.1 H1.out.1 H1.out.2.1 H1.out.2.2.2.1 hwE.symm
      clear hwE
      exact bodyPost_ret (v := .agg #[.int .i64 x.rule, .int .i64 x.term, .slice A9 x.kids.length c9]) (by simp [results, Tryd.results115, go_sem, e0, e1, e2, Tree.rule, Tree.term, Tree.kids]) rfl ⟨⟨A9, c9, rfl, HX.out.1, HX.out.2.1, HX.out.2.2.1, HX.out.2.2.2, hXe⟩, hCe, hKe⟩
    | rej _ _ _ q' op ho hm h =>
      have HO := Lib.hid ho
      have HO64 := Lib.hid (els_i64 HC.out.word ho)
      have HOm := Lib.hid (show op ∈ opsL t from List.mem_flatten.2 ⟨lv.ops, List.mem_map.2 ⟨lv, List.mem_of_getElem? HL.out, rfl⟩, hm⟩)
      have HRi := Lib.hid (rulOf_i64 F.out.opsn op)
      have hp9 : q < l.length := (List.getElem?_eq_some_iff.1 ho).1
      go_wp2_with fail
      refine (op_yes HC.out F.out HL.out ho hm).mono ?_
      rintro e w1 ⟨rfl, hb1⟩
      have HH1 := Lib.hid (HC.out.below hb1)
      have HK1 := Lib.hid (HKo.out.below hb1)
      have HR1 := Lib.hid (HRo.out.below hb1 HRo.out.lt)
      have HGx1 := Lib.hid (HGo.out.below hb1 HGo.out.lt)
      have HEx1 := Lib.hid (HEo.out.below hb1)
      have HP := Lib.hid (fun w1 h1 => HPn.out (q + 1) _ w1 h h1)
      have zo1 : wo.heap.size ≤ w1.heap.size := hb1.size
      have zG1 : w4.heap.size < w1.heap.size := HGx1.out.lt
      clear hb1 ho hm h
      go_wp2_with fail
      refine (take_hit K t.terms t.atom t.opn t.cls op _ _ l _ d q S w1 F.out.small HH1.out.blk HO.out HH1.out.word).mono ?_
      rintro e w2 ⟨rfl, hK2, hk2⟩
      obtain ⟨w3, hw3⟩ : ∃ w3 : World, w3 = w2.alloc (.cells #[.int .i64 (-1), .int .i64 op, .slice none 0 0] 27) := ⟨_, rfl⟩
      have hb3 : Below w2.heap.size w2 w3 := by rw [hw3]; exact (Below.refl _ _).alloc (Nat.le_refl _) _
      have hH3 := ((HH1.out.kept F.out hk2 (show q + 1 ≤ l.length by omega) hK2).below hb3)
      have hG3 : Blk' w3 w2.heap.size 27 #[.int .i64 (-1), .int .i64 op, .slice none 0 0] := by rw [hw3]; exact Blk'.new w2 _ _
      have HK3 := Lib.hid ((HK1.out.trans hk2).below hb3)
      have hZ3 : w.heap.size < w2.heap.size := by have := HR1.out.lt; have := hk2.size; omega
      have HR3 := Lib.hid ((HR1.out.kept hk2 (by omega)).below hb3 hZ3)
      have hGx3 := ((HGx1.out.kept hk2 (by omega)).below hb3 (by have := HGx1.out.lt; have := hk2.size; omega))
      have HGx3 := Lib.hid hGx3
      have HEx3 := Lib.hid ((HEx1.out.kept hk2 (fun b hb (e : b = K) => by have := hb.1; omega)).below hb3)
      have o0 : w3.cell? ⟨w4.heap.size, 0, none⟩ = some (.int .i64 x.rule) := hGx3.cell 0
      have o1 : w3.cell? ⟨w4.heap.size, 1, none⟩ = some (.int .i64 x.term) := hGx3.cell 1
      have o2 : w3.cell? ⟨w4.heap.size, 2, none⟩ = some (.slice A9 x.kids.length c9) := hGx3.cell 2
      have zG3 : w4.heap.size < w3.heap.size := hGx3.lt
      have HW3 := Lib.hid hw3
      have H3 := Lib.hid hH3
      have HG3 := Lib.hid hG3
      have HS0 : Hid ((fun w' => w'.cell? ⟨K, 7, none⟩ = some (.map (some M)) ∧ w'.cell? ⟨w2.heap.size, 0, none⟩ = some (.int .i64 (-1)) ∧ w'.cell? ⟨w2.heap.size, 1, none⟩ = some (.int .i64 op) ∧ w'.cell? ⟨w2.heap.size, 2, none⟩ = some (.slice none 0 0) ∧ (Instr.lookup 172 (.map (some M)) (.int .i64 op) false).run Tryd.prog w' = .ok (.int .i64 (rulOf t op)) w') w3.drew) := Lib.hid (by
        have hd := hH3.below (below_drew _)
        exact ⟨hd.blk.cell 7, hG3.cell 0, hG3.cell 1, hG3.cell 2, hd.look F.out HOm.out HO64.out⟩)
      have z3 : w2.heap.size < w3.heap.size := hG3.lt
      have zG2 : w4.heap.size < w2.heap.size := by have := hk2.size; omega
      have zo3 : wo.heap.size ≤ w3.heap.size := by have := hk2.size; omega
      clear hK2 hk2 hb3 hw3 hH3 hG3
      clear hGx3
      go_wp2_with fail
      rw [← HW3.out]
      refine wp_region_held_drew (S := (fun w' => w'.cell? ⟨K, 7, none⟩ = some (.map (some M)) ∧ w'.cell? ⟨w2.heap.size, 0, none⟩ = some (.int .i64 (-1)) ∧ w'.cell? ⟨w2.heap.size, 1, none⟩ = some (.int .i64 op) ∧ w'.cell? ⟨w2.heap.size, 2, none⟩ = some (.slice none 0 0) ∧ (Instr.lookup 172 (.map (some M)) (.int .i64 op) false).run Tryd.prog w' = .ok (.int .i64 (rulOf t op)) w')) (by kernel_rfl) ?hrc (fun hHeld => ?brc)
      case hrc => exact HS0.out
      refine take_run (i := 0) (v := ?vrc0) rfl (by kernel_rfl) (by kernel_rfl) (by kernel_rfl) (fun _ _ _ h => h) (by rfl) ?yrc0 (by assumption) ?rrc0
      case yrc0 => (intro w hSw; (try dsimp only at hSw); go_simp; try with_reducible rfl)
      try simp only [Act.put, List.setIfInBounds_toArray, List.set_cons_zero, List.set_cons_succ]
      refine take_run (i := 1) (v := ?vrc1) rfl (by kernel_rfl) (by kernel_rfl) (by kernel_rfl) (fun _ _ _ h => h) (by rfl) ?yrc1 (by assumption) ?rrc1
      case yrc1 => (intro w hSw; (try dsimp only at hSw); go_simp; try with_reducible rfl)
      try simp only [Act.put, List.setIfInBounds_toArray, List.set_cons_zero, List.set_cons_succ]
      refine take_run (i := 2) (v := ?vrc2) rfl (by kernel_rfl) (by kernel_rfl) (by kernel_rfl) (fun _ _ _ h => h) (by rfl) ?yrc2 (by assumption) ?rrc2
      case yrc2 => (intro w hSw; (try dsimp only at hSw); go_simp; try with_reducible rfl)
      try simp only [Act.put, List.setIfInBounds_toArray, List.set_cons_zero, List.set_cons_succ]
      refine take_run (i := 3) (v := ?vrc3) rfl (by kernel_rfl) (by kernel_rfl) (by kernel_rfl) (fun _ _ _ h => h) (by rfl) ?yrc3 (by assumption) ?rrc3
      case yrc3 => (intro w hSw; (try dsimp only at hSw); go_simp; try with_reducible rfl)
      try simp only [Act.put, List.setIfInBounds_toArray, List.set_cons_zero, List.set_cons_succ]
      refine take_run (i := 4) (v := ?vrc4) rfl (by kernel_rfl) (by kernel_rfl) (by kernel_rfl) (fun _ _ _ h => h) (by rfl) ?yrc4 (by assumption) ?rrc4
      case yrc4 => (intro w hSw; (try dsimp only at hSw); go_simp; try with_reducible rfl)
      try simp only [Act.put, List.setIfInBounds_toArray, List.set_cons_zero, List.set_cons_succ]
      refine take_run (i := 5) (v := .int .i64 (rulOf t op)) rfl (by kernel_rfl) (by kernel_rfl) (by kernel_rfl) (fun _ _ _ h => h) (by rfl) ?yrc5 (by assumption) ?rrc5
      case yrc5 => (intro w hSw; (try dsimp only at hSw); try go_simp; first | done | omega | (simp [hSw]; done) | trace_state)
      try simp only [Act.put, List.setIfInBounds_toArray, List.set_cons_zero, List.set_cons_succ]
      refine take_run (i := 7) (v := ?vrc7) rfl (by kernel_rfl) (by kernel_rfl) (by kernel_rfl) (fun _ _ _ h => h) (by rfl) ?yrc7 (by assumption) ?rrc7
      case yrc7 => (intro w hSw; (try dsimp only at hSw); go_simp; try with_reducible rfl)
      try simp only [Act.put, List.setIfInBounds_toArray, List.set_cons_zero, List.set_cons_succ]
      refine take_run (i := 8) (v := ?vrc8) rfl (by kernel_rfl) (by kernel_rfl) (by kernel_rfl) (fun _ _ _ h => h) (by rfl) ?yrc8 (by assumption) ?rrc8
      case yrc8 => (intro w hSw; (try dsimp only at hSw); go_simp; try with_reducible rfl)
      try simp only [Act.put, List.setIfInBounds_toArray, List.set_cons_zero, List.set_cons_succ]
      refine take_run (i := 9) (v := ?vrc9) rfl (by kernel_rfl) (by kernel_rfl) (by kernel_rfl) (fun _ _ _ h => h) (by rfl) ?yrc9 (by assumption) ?rrc9
      case yrc9 => (intro w hSw; (try dsimp only at hSw); go_simp; try with_reducible rfl)
      try simp only [Act.put, List.setIfInBounds_toArray, List.set_cons_zero, List.set_cons_succ]
      refine take_two (i := 6) (j := 10) rfl rfl (by kernel_rfl) (by rfl) (by rfl) (fun Kq hK => ?oner6) (fun Kq hK => ?twor6)
      case oner6 =>
        go_simp
        refine hK.out _ _ ?hrc6 (fun hHeld => ?rrc6)
        case hrc6 => exact HS0.out
        clear hK Kq
        try simp only [Act.put, List.setIfInBounds_toArray, List.set_cons_zero, List.set_cons_succ]
        refine take_call (i := 10) rfl (by kernel_rfl) (by rfl) (fun Kq hK => ?_)
        go_simp
        go_at_call 115
        refine (HP.out _ (H3.out.below (below_drew _))).mono ?_
        rintro e w6 ⟨rfl, hC6, hk6⟩
        exact ⟨rfl, rfl, hC6, HK3.out.trans hk6.undrew⟩
      case twor6 =>
        go_simp
        go_at_call 115
        refine (HP.out _ (H3.out.below (below_drew _))).mono ?_
        rintro e w6 ⟨rfl, hC6, hk6⟩
        exact ⟨rfl, rfl, hC6, HK3.out.trans hk6.undrew⟩
    | one _ _ y _ q' op ho hm hk h =>
      have HK1b := Lib.hid hk
      clear hk
      have HO := Lib.hid ho
      have HO64 := Lib.hid (els_i64 HC.out.word ho)
      have HOm := Lib.hid (show op ∈ opsL t from List.mem_flatten.2 ⟨lv.ops, List.mem_map.2 ⟨lv, List.mem_of_getElem? HL.out, rfl⟩, hm⟩)
      have HRi := Lib.hid (rulOf_i64 F.out.opsn op)
      have hp9 : q < l.length := (List.getElem?_eq_some_iff.1 ho).1
      go_wp2_with fail
      refine (op_yes HC.out F.out HL.out ho hm).mono ?_
      rintro e w1 ⟨rfl, hb1⟩
      have HH1 := Lib.hid (HC.out.below hb1)
      have HK1 := Lib.hid (HKo.out.below hb1)
      have HR1 := Lib.hid (HRo.out.below hb1 HRo.out.lt)
      have HGx1 := Lib.hid (HGo.out.below hb1 HGo.out.lt)
      have HEx1 := Lib.hid (HEo.out.below hb1)
      have HP := Lib.hid (fun w1 h1 => HPn.out (q + 1) _ w1 h h1)
      have zo1 : wo.heap.size ≤ w1.heap.size := hb1.size
      have zG1 : w4.heap.size < w1.heap.size := HGx1.out.lt
      clear hb1 ho hm h
      go_wp2_with fail
      refine (take_hit K t.terms t.atom t.opn t.cls op _ _ l _ d q S w1 F.out.small HH1.out.blk HO.out HH1.out.word).mono ?_
      rintro e w2 ⟨rfl, hK2, hk2⟩
      obtain ⟨w3, hw3⟩ : ∃ w3 : World, w3 = w2.alloc (.cells #[.int .i64 (-1), .int .i64 op, .slice none 0 0] 27) := ⟨_, rfl⟩
      have hb3 : Below w2.heap.size w2 w3 := by rw [hw3]; exact (Below.refl _ _).alloc (Nat.le_refl _) _
      have hH3 := ((HH1.out.kept F.out hk2 (show q + 1 ≤ l.length by omega) hK2).below hb3)
      have hG3 : Blk' w3 w2.heap.size 27 #[.int .i64 (-1), .int .i64 op, .slice none 0 0] := by rw [hw3]; exact Blk'.new w2 _ _
      have HK3 := Lib.hid ((HK1.out.trans hk2).below hb3)
      have hZ3 : w.heap.size < w2.heap.size := by have := HR1.out.lt; have := hk2.size; omega
      have HR3 := Lib.hid ((HR1.out.kept hk2 (by omega)).below hb3 hZ3)
      have hGx3 := ((HGx1.out.kept hk2 (by omega)).below hb3 (by have := HGx1.out.lt; have := hk2.size; omega))
      have HGx3 := Lib.hid hGx3
      have HEx3 := Lib.hid ((HEx1.out.kept hk2 (fun b hb (e : b = K) => by have := hb.1; omega)).below hb3)
      have o0 : w3.cell? ⟨w4.heap.size, 0, none⟩ = some (.int .i64 x.rule) := hGx3.cell 0
      have o1 : w3.cell? ⟨w4.heap.size, 1, none⟩ = some (.int .i64 x.term) := hGx3.cell 1
      have o2 : w3.cell? ⟨w4.heap.size, 2, none⟩ = some (.slice A9 x.kids.length c9) := hGx3.cell 2
      have zG3 : w4.heap.size < w3.heap.size := hGx3.lt
      have HW3 := Lib.hid hw3
      have H3 := Lib.hid hH3
      have HG3 := Lib.hid hG3
      have HS0 : Hid ((fun w' => w'.cell? ⟨K, 7, none⟩ = some (.map (some M)) ∧ w'.cell? ⟨w2.heap.size, 0, none⟩ = some (.int .i64 (-1)) ∧ w'.cell? ⟨w2.heap.size, 1, none⟩ = some (.int .i64 op) ∧ w'.cell? ⟨w2.heap.size, 2, none⟩ = some (.slice none 0 0) ∧ (Instr.lookup 172 (.map (some M)) (.int .i64 op) false).run Tryd.prog w' = .ok (.int .i64 (rulOf t op)) w') w3.drew) := Lib.hid (by
        have hd := hH3.below (below_drew _)
        exact ⟨hd.blk.cell 7, hG3.cell 0, hG3.cell 1, hG3.cell 2, hd.look F.out HOm.out HO64.out⟩)
      have z3 : w2.heap.size < w3.heap.size := hG3.lt
      have zG2 : w4.heap.size < w2.heap.size := by have := hk2.size; omega
      have zo3 : wo.heap.size ≤ w3.heap.size := by have := hk2.size; omega
      clear hK2 hk2 hb3 hw3 hH3 hG3
      clear hGx3
      go_wp2_with fail
      rw [← HW3.out]
      refine wp_region_noPanic ?_
      refine wp_region_held_drew (S := (fun w' => w'.cell? ⟨K, 7, none⟩ = some (.map (some M)) ∧ w'.cell? ⟨w2.heap.size, 0, none⟩ = some (.int .i64 (-1)) ∧ w'.cell? ⟨w2.heap.size, 1, none⟩ = some (.int .i64 op) ∧ w'.cell? ⟨w2.heap.size, 2, none⟩ = some (.slice none 0 0) ∧ (Instr.lookup 172 (.map (some M)) (.int .i64 op) false).run Tryd.prog w' = .ok (.int .i64 (rulOf t op)) w')) (by kernel_rfl) ?hoc (fun hHeld => ?boc)
      case hoc => exact HS0.out
      refine take_run (i := 0) (v := ?voc0) rfl (by kernel_rfl) (by kernel_rfl) (by kernel_rfl) (fun _ _ _ h => h) (by rfl) ?yoc0 (by assumption) ?roc0
      case yoc0 => (intro w hSw; (try dsimp only at hSw); go_simp; try with_reducible rfl)
      try simp only [Act.put, List.setIfInBounds_toArray, List.set_cons_zero, List.set_cons_succ]
      refine take_run (i := 1) (v := ?voc1) rfl (by kernel_rfl) (by kernel_rfl) (by kernel_rfl) (fun _ _ _ h => h) (by rfl) ?yoc1 (by assumption) ?roc1
      case yoc1 => (intro w hSw; (try dsimp only at hSw); go_simp; try with_reducible rfl)
      try simp only [Act.put, List.setIfInBounds_toArray, List.set_cons_zero, List.set_cons_succ]
      refine take_run (i := 2) (v := ?voc2) rfl (by kernel_rfl) (by kernel_rfl) (by kernel_rfl) (fun _ _ _ h => h) (by rfl) ?yoc2 (by assumption) ?roc2
      case yoc2 => (intro w hSw; (try dsimp only at hSw); go_simp; try with_reducible rfl)
      try simp only [Act.put, List.setIfInBounds_toArray, List.set_cons_zero, List.set_cons_succ]
      refine take_run (i := 3) (v := ?voc3) rfl (by kernel_rfl) (by kernel_rfl) (by kernel_rfl) (fun _ _ _ h => h) (by rfl) ?yoc3 (by assumption) ?roc3
      case yoc3 => (intro w hSw; (try dsimp only at hSw); go_simp; try with_reducible rfl)
      try simp only [Act.put, List.setIfInBounds_toArray, List.set_cons_zero, List.set_cons_succ]
      refine take_run (i := 4) (v := ?voc4) rfl (by kernel_rfl) (by kernel_rfl) (by kernel_rfl) (fun _ _ _ h => h) (by rfl) ?yoc4 (by assumption) ?roc4
      case yoc4 => (intro w hSw; (try dsimp only at hSw); go_simp; try with_reducible rfl)
      try simp only [Act.put, List.setIfInBounds_toArray, List.set_cons_zero, List.set_cons_succ]
      refine take_run (i := 5) (v := .int .i64 (rulOf t op)) rfl (by kernel_rfl) (by kernel_rfl) (by kernel_rfl) (fun _ _ _ h => h) (by rfl) ?yoc5 (by assumption) ?roc5
      case yoc5 => (intro w hSw; (try dsimp only at hSw); try go_simp; first | done | omega | (simp [hSw]; done) | trace_state)
      try simp only [Act.put, List.setIfInBounds_toArray, List.set_cons_zero, List.set_cons_succ]
      refine take_run (i := 7) (v := ?voc7) rfl (by kernel_rfl) (by kernel_rfl) (by kernel_rfl) (fun _ _ _ h => h) (by rfl) ?yoc7 (by assumption) ?roc7
      case yoc7 => (intro w hSw; (try dsimp only at hSw); go_simp; try with_reducible rfl)
      try simp only [Act.put, List.setIfInBounds_toArray, List.set_cons_zero, List.set_cons_succ]
      refine take_run (i := 8) (v := ?voc8) rfl (by kernel_rfl) (by kernel_rfl) (by kernel_rfl) (fun _ _ _ h => h) (by rfl) ?yoc8 (by assumption) ?roc8
      case yoc8 => (intro w hSw; (try dsimp only at hSw); go_simp; try with_reducible rfl)
      try simp only [Act.put, List.setIfInBounds_toArray, List.set_cons_zero, List.set_cons_succ]
      refine take_run (i := 9) (v := ?voc9) rfl (by kernel_rfl) (by kernel_rfl) (by kernel_rfl) (fun _ _ _ h => h) (by rfl) ?yoc9 (by assumption) ?roc9
      case yoc9 => (intro w hSw; (try dsimp only at hSw); go_simp; try with_reducible rfl)
      try simp only [Act.put, List.setIfInBounds_toArray, List.set_cons_zero, List.set_cons_succ]
      refine take_two (i := 6) (j := 10) rfl rfl (by kernel_rfl) (by rfl) (by rfl) (fun Kq hK => ?oneo6) (fun Kq hK => ?twoo6)
      case oneo6 =>
        go_simp
        refine hK.out _ _ ?hoc6 (fun hHeld => ?roc6)
        case hoc6 => exact HS0.out
        clear hK Kq
        try simp only [Act.put, List.setIfInBounds_toArray, List.set_cons_zero, List.set_cons_succ]
        refine take_call (i := 10) rfl (by kernel_rfl) (by rfl) (fun Kq hK => ?_)
        go_simp
        go_at_call 115
        refine (HP.out _ (H3.out.below (below_drew _))).mono ?_
        rintro e w6 ⟨⟨A6, c6, rfl, i1, i2, i3, i4, hE6⟩, hC6, hk6⟩
        have hR6 := HR3.out.kept hk6.undrew (by omega)
        have hG6 := HG3.out.kept hk6.undrew (by omega)
        have hGx6 := HGx3.out.kept hk6.undrew (by omega)
        have HS : Hid (∀ w', Kept (fun b => b = w4.heap.size) w6 w' → (fun w' => w'.cell? ⟨K, 7, none⟩ = some (.map (some M)) ∧ w'.cell? ⟨w2.heap.size, 0, none⟩ = some (.int .i64 (-1)) ∧ w'.cell? ⟨w2.heap.size, 1, none⟩ = some (.int .i64 op) ∧ w'.cell? ⟨w2.heap.size, 2, none⟩ = some (.slice none 0 0) ∧ (Instr.lookup 172 (.map (some M)) (.int .i64 op) false).run Tryd.prog w' = .ok (.int .i64 (rulOf t op)) w') w') := Lib.hid (fun w' kR => by
          have hC' := HH.out.kept F.out ((HK3.out.trans hk6.undrew).later kR (fun b (hb : b = w4.heap.size) => .inr (by omega))) hC6.le (hC6.blk.kept kR (by omega))
          have hG' := hG6.kept kR (by omega)
          exact ⟨hC'.blk.cell 7, hG'.cell 0, hG'.cell 1, hG'.cell 2, hC'.look F.out HOm.out HO64.out⟩)
        have HE6 := Lib.hid (And.intro i1 (And.intro i2 (And.intro i3 (And.intro i4 hE6))))
        have HK6 := Lib.hid (And.intro hC6 (And.intro hk6.undrew (And.intro hR6 (And.intro hGx6 (HEx3.out.kept hk6.undrew (fun b hb (e : b = K) => by have := hb.1; omega))))))
        have p0 : w6.cell? ⟨w4.heap.size, 0, none⟩ = some (.int .i64 x.rule) := hGx6.cell 0
        have p1 : w6.cell? ⟨w4.heap.size, 1, none⟩ = some (.int .i64 x.term) := hGx6.cell 1
        have p2 : w6.cell? ⟨w4.heap.size, 2, none⟩ = some (.slice A9 x.kids.length c9) := hGx6.cell 2
        have f0 := hGx6.frozen 0
        have f1 := hGx6.frozen 1
        have f2 := hGx6.frozen 2
        have zzG : w4.heap.size < w6.heap.size := hGx6.lt
        clear i1 i2 i3 i4 hE6 hC6 hk6 hR6 hG6 hGx6 o0 o1 o2
        refine hK.out _ _ ?hod10 (fun hHeld => ?rod10)
        case hod10 => (first | exact HS.out _ (Kept.refl _ _) | exact HS.out _ ((Kept.refl _ _).alloc _) | exact HS.out _ (((((Kept.refl (fun b => b = w4.heap.size) _).setCell (p := ⟨w4.heap.size, 0, none⟩) (.inl rfl) _).setCell (p := ⟨w4.heap.size, 1, none⟩) (.inl rfl) _).setCell (p := ⟨w4.heap.size, 2, none⟩) (.inl rfl) _).alloc _))
        clear hK Kq
        try simp only [Act.put, List.setIfInBounds_toArray, List.set_cons_zero, List.set_cons_succ]
        refine take_call (i := 11) rfl (by kernel_rfl) (by rfl) (fun Kq hK => ?_)
        go_simp
        refine hK.out _ _ ?hoe11 (fun hHeld => ?roe11)
        case hoe11 => (first | exact HS.out _ (Kept.refl _ _) | exact HS.out _ ((Kept.refl _ _).alloc _) | exact HS.out _ (((((Kept.refl (fun b => b = w4.heap.size) _).setCell (p := ⟨w4.heap.size, 0, none⟩) (.inl rfl) _).setCell (p := ⟨w4.heap.size, 1, none⟩) (.inl rfl) _).setCell (p := ⟨w4.heap.size, 2, none⟩) (.inl rfl) _).alloc _))
        clear hK Kq
        try simp only [Act.put, List.setIfInBounds_toArray, List.set_cons_zero, List.set_cons_succ]
        refine take_call (i := 12) rfl (by kernel_rfl) (by rfl) (fun Kq hK => ?_)
        go_simp
        refine hK.out _ _ ?hoe12 (fun hHeld => ?roe12)
        case hoe12 => (first | exact HS.out _ (Kept.refl _ _) | exact HS.out _ ((Kept.refl _ _).alloc _) | exact HS.out _ (((((Kept.refl (fun b => b = w4.heap.size) _).setCell (p := ⟨w4.heap.size, 0, none⟩) (.inl rfl) _).setCell (p := ⟨w4.heap.size, 1, none⟩) (.inl rfl) _).setCell (p := ⟨w4.heap.size, 2, none⟩) (.inl rfl) _).alloc _))
        clear hK Kq
        try simp only [Act.put, List.setIfInBounds_toArray, List.set_cons_zero, List.set_cons_succ]
        refine take_call (i := 13) rfl (by kernel_rfl) (by rfl) (fun Kq hK => ?_)
        go_simp
        refine hK.out _ _ ?hoe13 (fun hHeld => ?roe13)
        case hoe13 => (first | exact HS.out _ (Kept.refl _ _) | exact HS.out _ ((Kept.refl _ _).alloc _) | exact HS.out _ (((((Kept.refl (fun b => b = w4.heap.size) _).setCell (p := ⟨w4.heap.size, 0, none⟩) (.inl rfl) _).setCell (p := ⟨w4.heap.size, 1, none⟩) (.inl rfl) _).setCell (p := ⟨w4.heap.size, 2, none⟩) (.inl rfl) _).alloc _))
        clear hK Kq
        try simp only [Act.put, List.setIfInBounds_toArray, List.set_cons_zero, List.set_cons_succ]
        refine wpAnyH_done (by kernel_rfl) ?_ _
        refine NoPanic.normal ?_
        generalize hwF : World.alloc _ _ = wF
        obtain ⟨⟨⟨u0, u1, u2⟩, hC, hKw⟩, hN, hz, hKF⟩ := node_fin HH.out F.out (HK3.out.trans HK6.out.2.1) HK6.out.1.blk HK6.out.1.le HK6.out.2.2.2.1 (by omega) hwF.symm
        have hGF : Blk' wF w4.heap.size 27 #[.int .i64 (rulOf t op), .int .i64 0, .slice (some ⟨w6.heap.size, 0, none⟩) 3 3] := by rw [← hwF]; exact (((HK6.out.2.2.2.1.set_ 0 _).set_ 1 _).set_ 2 _).alloc _
        clear hwF
        have z36 := HK6.out.2.1.size
        have hRF := HK6.out.2.2.1.kept hKF (by omega)
        have hEx := HK6.out.2.2.2.2.kept hKF (fun b hb (e : b = w4.heap.size) => hb.2.1 e)
        have hEy := HE6.out.2.2.2.2.kept hKF (fun b hb (e : b = w4.heap.size) => by have := hb.1; simp at this; omega)
        have hEF : Els wF (fun b => w.heap.size < b ∧ b ≠ w4.heap.size ∧ b < wF.heap.size) [x, leafT op, y] (some ⟨w6.heap.size, 0, none⟩) :=
          els_trio (cs := [_, _, _]) (ds := [_, _, _]) (fs := [_, _, _]) hN rfl (rd_node HX.out.1 HX.out.2.1 HX.out.2.2.1 HX.out.2.2.2 (hEx.keep (fun _ _ _ => rfl) (fun b hb => ⟨hb.1, hb.2.1, by have := hb.2.2; omega⟩))) (rd_leaf HO64.out) (rd_node HE6.out.1 HE6.out.2.1 HE6.out.2.2.1 HE6.out.2.2.2.1 (hEy.keep (fun _ _ _ => rfl) (fun b hb => ⟨by have := hb.1; simp at this; omega, by have := hb.1; simp at this; omega, by have := hb.2; omega⟩))) ⟨by omega, by omega, by omega⟩
        have HFin := Lib.hid (And.intro hC (And.intro hKw (And.intro hGF (And.intro hEF hRF))))
        have k1b : (lv.kind != 1) = true := by simp [HK1b.out]
        have s0 : wF.cell? ⟨w.heap.size, 0, none⟩ = some (.int .i64 0) := hRF.cell 0
        have s1 : wF.cell? ⟨w.heap.size, 1, none⟩ = some (.int .i64 0) := hRF.cell 1
        have s2 : wF.cell? ⟨w.heap.size, 2, none⟩ = some (.slice none 0 0) := hRF.cell 2
        have r0 := hRF.frozen 0
        have r1 := hRF.frozen 1
        have r2 := hRF.frozen 2
        have zzR : w.heap.size < wF.heap.size := hRF.lt
        clear hC hKw hN hKF hEx hEy hEF hRF hGF p0 p1 p2 f0 f1 f2
        go_wp2_with fail
        generalize hwE : World.setCell _ _ _ = wE
        obtain ⟨⟨e0, e1, e2⟩, hXe, hCe, hKe⟩ := store_res (x := ⟨rulOf t op, 0, [x, leafT op, y]⟩) HH.out F.out (Nat.le_refl _) (fun b hb => ⟨hb.1, hb.2.2⟩) HFin.out.2.2.2.1 HFin.out.1 HFin.out.2.1 HFin.out.2.2.2.2 hwE.symm
        clear hwE
        exact bodyPost_ret (v := .agg #[.int .i64 (rulOf t op), .int .i64 0, .slice (some ⟨w6.heap.size, 0, none⟩) 3 3]) (by simp [results, Tryd.results115, go_sem, e0, e1, e2, Tree.rule, Tree.term, Tree.kids]) rfl ⟨⟨(some ⟨w6.heap.size, 0, none⟩), 3, rfl, HRi.out, i64_0, Nat.le_refl _, by omega, hXe⟩, hCe, hKe⟩
      case twoo6 =>
        go_simp
        go_at_call 115
        refine (HP.out _ (H3.out.below (below_drew _))).mono ?_
        rintro e w6 ⟨⟨A6, c6, rfl, i1, i2, i3, i4, hE6⟩, hC6, hk6⟩
        have hR6 := HR3.out.kept hk6.undrew (by omega)
        have hG6 := HG3.out.kept hk6.undrew (by omega)
        have hGx6 := HGx3.out.kept hk6.undrew (by omega)
        have HS : Hid (∀ w', Kept (fun b => b = w4.heap.size) w6 w' → (fun w' => w'.cell? ⟨K, 7, none⟩ = some (.map (some M)) ∧ w'.cell? ⟨w2.heap.size, 0, none⟩ = some (.int .i64 (-1)) ∧ w'.cell? ⟨w2.heap.size, 1, none⟩ = some (.int .i64 op) ∧ w'.cell? ⟨w2.heap.size, 2, none⟩ = some (.slice none 0 0) ∧ (Instr.lookup 172 (.map (some M)) (.int .i64 op) false).run Tryd.prog w' = .ok (.int .i64 (rulOf t op)) w') w') := Lib.hid (fun w' kR => by
          have hC' := HH.out.kept F.out ((HK3.out.trans hk6.undrew).later kR (fun b (hb : b = w4.heap.size) => .inr (by omega))) hC6.le (hC6.blk.kept kR (by omega))
          have hG' := hG6.kept kR (by omega)
          exact ⟨hC'.blk.cell 7, hG'.cell 0, hG'.cell 1, hG'.cell 2, hC'.look F.out HOm.out HO64.out⟩)
        have HE6 := Lib.hid (And.intro i1 (And.intro i2 (And.intro i3 (And.intro i4 hE6))))
        have HK6 := Lib.hid (And.intro hC6 (And.intro hk6.undrew (And.intro hR6 (And.intro hGx6 (HEx3.out.kept hk6.undrew (fun b hb (e : b = K) => by have := hb.1; omega))))))
        have p0 : w6.cell? ⟨w4.heap.size, 0, none⟩ = some (.int .i64 x.rule) := hGx6.cell 0
        have p1 : w6.cell? ⟨w4.heap.size, 1, none⟩ = some (.int .i64 x.term) := hGx6.cell 1
        have p2 : w6.cell? ⟨w4.heap.size, 2, none⟩ = some (.slice A9 x.kids.length c9) := hGx6.cell 2
        have f0 := hGx6.frozen 0
        have f1 := hGx6.frozen 1
        have f2 := hGx6.frozen 2
        have zzG : w4.heap.size < w6.heap.size := hGx6.lt
        clear i1 i2 i3 i4 hE6 hC6 hk6 hR6 hG6 hGx6 o0 o1 o2
        refine hK.out _ _ ?hoc10 (fun hHeld => ?roc10)
        case hoc10 => (first | exact HS.out _ (Kept.refl _ _) | exact HS.out _ ((Kept.refl _ _).alloc _) | exact HS.out _ (((((Kept.refl (fun b => b = w4.heap.size) _).setCell (p := ⟨w4.heap.size, 0, none⟩) (.inl rfl) _).setCell (p := ⟨w4.heap.size, 1, none⟩) (.inl rfl) _).setCell (p := ⟨w4.heap.size, 2, none⟩) (.inl rfl) _).alloc _))
        clear hK Kq
        try simp only [Act.put, List.setIfInBounds_toArray, List.set_cons_zero, List.set_cons_succ]
        refine take_call (i := 6) rfl (by kernel_rfl) (by rfl) (fun Kq hK => ?_)
        go_simp
        refine hK.out _ _ ?hog6 (fun hHeld => ?rog6)
        case hog6 => (first | exact HS.out _ (Kept.refl _ _) | exact HS.out _ ((Kept.refl _ _).alloc _) | exact HS.out _ (((((Kept.refl (fun b => b = w4.heap.size) _).setCell (p := ⟨w4.heap.size, 0, none⟩) (.inl rfl) _).setCell (p := ⟨w4.heap.size, 1, none⟩) (.inl rfl) _).setCell (p := ⟨w4.heap.size, 2, none⟩) (.inl rfl) _).alloc _))
        clear hK Kq
        try simp only [Act.put, List.setIfInBounds_toArray, List.set_cons_zero, List.set_cons_succ]
        refine take_call (i := 11) rfl (by kernel_rfl) (by rfl) (fun Kq hK => ?_)
        go_simp
        refine hK.out _ _ ?hog11 (fun hHeld => ?rog11)
        case hog11 => (first | exact HS.out _ (Kept.refl _ _) | exact HS.out _ ((Kept.refl _ _).alloc _) | exact HS.out _ (((((Kept.refl (fun b => b = w4.heap.size) _).setCell (p := ⟨w4.heap.size, 0, none⟩) (.inl rfl) _).setCell (p := ⟨w4.heap.size, 1, none⟩) (.inl rfl) _).setCell (p := ⟨w4.heap.size, 2, none⟩) (.inl rfl) _).alloc _))
        clear hK Kq
        try simp only [Act.put, List.setIfInBounds_toArray, List.set_cons_zero, List.set_cons_succ]
        refine take_call (i := 12) rfl (by kernel_rfl) (by rfl) (fun Kq hK => ?_)
        go_simp
        refine hK.out _ _ ?hog12 (fun hHeld => ?rog12)
        case hog12 => (first | exact HS.out _ (Kept.refl _ _) | exact HS.out _ ((Kept.refl _ _).alloc _) | exact HS.out _ (((((Kept.refl (fun b => b = w4.heap.size) _).setCell (p := ⟨w4.heap.size, 0, none⟩) (.inl rfl) _).setCell (p := ⟨w4.heap.size, 1, none⟩) (.inl rfl) _).setCell (p := ⟨w4.heap.size, 2, none⟩) (.inl rfl) _).alloc _))
        clear hK Kq
        try simp only [Act.put, List.setIfInBounds_toArray, List.set_cons_zero, List.set_cons_succ]
        refine take_call (i := 13) rfl (by kernel_rfl) (by rfl) (fun Kq hK => ?_)
        go_simp
        refine hK.out _ _ ?hog13 (fun hHeld => ?rog13)
        case hog13 => (first | exact HS.out _ (Kept.refl _ _) | exact HS.out _ ((Kept.refl _ _).alloc _) | exact HS.out _ (((((Kept.refl (fun b => b = w4.heap.size) _).setCell (p := ⟨w4.heap.size, 0, none⟩) (.inl rfl) _).setCell (p := ⟨w4.heap.size, 1, none⟩) (.inl rfl) _).setCell (p := ⟨w4.heap.size, 2, none⟩) (.inl rfl) _).alloc _))
        clear hK Kq
        try simp only [Act.put, List.setIfInBounds_toArray, List.set_cons_zero, List.set_cons_succ]
        refine wpAnyH_done (by kernel_rfl) ?_ _
        refine NoPanic.normal ?_
        generalize hwF : World.alloc _ _ = wF
        obtain ⟨⟨⟨u0, u1, u2⟩, hC, hKw⟩, hN, hz, hKF⟩ := node_fin HH.out F.out (HK3.out.trans HK6.out.2.1) HK6.out.1.blk HK6.out.1.le HK6.out.2.2.2.1 (by omega) hwF.symm
        have hGF : Blk' wF w4.heap.size 27 #[.int .i64 (rulOf t op), .int .i64 0, .slice (some ⟨w6.heap.size, 0, none⟩) 3 3] := by rw [← hwF]; exact (((HK6.out.2.2.2.1.set_ 0 _).set_ 1 _).set_ 2 _).alloc _
        clear hwF
        have z36 := HK6.out.2.1.size
        have hRF := HK6.out.2.2.1.kept hKF (by omega)
        have hEx := HK6.out.2.2.2.2.kept hKF (fun b hb (e : b = w4.heap.size) => hb.2.1 e)
        have hEy := HE6.out.2.2.2.2.kept hKF (fun b hb (e : b = w4.heap.size) => by have := hb.1; simp at this; omega)
        have hEF : Els wF (fun b => w.heap.size < b ∧ b ≠ w4.heap.size ∧ b < wF.heap.size) [x, leafT op, y] (some ⟨w6.heap.size, 0, none⟩) :=
          els_trio (cs := [_, _, _]) (ds := [_, _, _]) (fs := [_, _, _]) hN rfl (rd_node HX.out.1 HX.out.2.1 HX.out.2.2.1 HX.out.2.2.2 (hEx.keep (fun _ _ _ => rfl) (fun b hb => ⟨hb.1, hb.2.1, by have := hb.2.2; omega⟩))) (rd_leaf HO64.out) (rd_node HE6.out.1 HE6.out.2.1 HE6.out.2.2.1 HE6.out.2.2.2.1 (hEy.keep (fun _ _ _ => rfl) (fun b hb => ⟨by have := hb.1; simp at this; omega, by have := hb.1; simp at this; omega, by have := hb.2; omega⟩))) ⟨by omega, by omega, by omega⟩
        have HFin := Lib.hid (And.intro hC (And.intro hKw (And.intro hGF (And.intro hEF hRF))))
        have k1b : (lv.kind != 1) = true := by simp [HK1b.out]
        have s0 : wF.cell? ⟨w.heap.size, 0, none⟩ = some (.int .i64 0) := hRF.cell 0
        have s1 : wF.cell? ⟨w.heap.size, 1, none⟩ = some (.int .i64 0) := hRF.cell 1
        have s2 : wF.cell? ⟨w.heap.size, 2, none⟩ = some (.slice none 0 0) := hRF.cell 2
        have r0 := hRF.frozen 0
        have r1 := hRF.frozen 1
        have r2 := hRF.frozen 2
        have zzR : w.heap.size < wF.heap.size := hRF.lt
        clear hC hKw hN hKF hEx hEy hEF hRF hGF p0 p1 p2 f0 f1 f2
        go_wp2_with fail
        generalize hwE : World.setCell _ _ _ = wE
        obtain ⟨⟨e0, e1, e2⟩, hXe, hCe, hKe⟩ := store_res (x := ⟨rulOf t op, 0, [x, leafT op, y]⟩) HH.out F.out (Nat.le_refl _) (fun b hb => ⟨hb.1, hb.2.2⟩) HFin.out.2.2.2.1 HFin.out.1 HFin.out.2.1 HFin.out.2.2.2.2 hwE.symm
        clear hwE
        exact bodyPost_ret (v := .agg #[.int .i64 (rulOf t op), .int .i64 0, .slice (some ⟨w6.heap.size, 0, none⟩) 3 3]) (by simp [results, Tryd.results115, go_sem, e0, e1, e2, Tree.rule, Tree.term, Tree.kids]) rfl ⟨⟨(some ⟨w6.heap.size, 0, none⟩), 3, rfl, HRi.out, i64_0, Nat.le_refl _, by omega, hXe⟩, hCe, hKe⟩
    | more n1 _ y _ q' op _ ho hm hk h hr =>
      have HK1b := Lib.hid hk
      have HLr := Lib.hid hr
      clear hk hr
      have HO := Lib.hid ho
      have HO64 := Lib.hid (els_i64 HC.out.word ho)
      have HOm := Lib.hid (show op ∈ opsL t from List.mem_flatten.2 ⟨lv.ops, List.mem_map.2 ⟨lv, List.mem_of_getElem? HL.out, rfl⟩, hm⟩)
      have HRi := Lib.hid (rulOf_i64 F.out.opsn op)
      have hp9 : q < l.length := (List.getElem?_eq_some_iff.1 ho).1
      go_wp2_with fail
      refine (op_yes HC.out F.out HL.out ho hm).mono ?_
      rintro e w1 ⟨rfl, hb1⟩
      have HH1 := Lib.hid (HC.out.below hb1)
      have HK1 := Lib.hid (HKo.out.below hb1)
      have HR1 := Lib.hid (HRo.out.below hb1 HRo.out.lt)
      have HGx1 := Lib.hid (HGo.out.below hb1 HGo.out.lt)
      have HEx1 := Lib.hid (HEo.out.below hb1)
      have HP := Lib.hid (fun w1 h1 => HPn.out (q + 1) _ w1 h h1)
      have zo1 : wo.heap.size ≤ w1.heap.size := hb1.size
      have zG1 : w4.heap.size < w1.heap.size := HGx1.out.lt
      clear hb1 ho hm h
      go_wp2_with fail
      refine (take_hit K t.terms t.atom t.opn t.cls op _ _ l _ d q S w1 F.out.small HH1.out.blk HO.out HH1.out.word).mono ?_
      rintro e w2 ⟨rfl, hK2, hk2⟩
      obtain ⟨w3, hw3⟩ : ∃ w3 : World, w3 = w2.alloc (.cells #[.int .i64 (-1), .int .i64 op, .slice none 0 0] 27) := ⟨_, rfl⟩
      have hb3 : Below w2.heap.size w2 w3 := by rw [hw3]; exact (Below.refl _ _).alloc (Nat.le_refl _) _
      have hH3 := ((HH1.out.kept F.out hk2 (show q + 1 ≤ l.length by omega) hK2).below hb3)
      have hG3 : Blk' w3 w2.heap.size 27 #[.int .i64 (-1), .int .i64 op, .slice none 0 0] := by rw [hw3]; exact Blk'.new w2 _ _
      have HK3 := Lib.hid ((HK1.out.trans hk2).below hb3)
      have hZ3 : w.heap.size < w2.heap.size := by have := HR1.out.lt; have := hk2.size; omega
      have HR3 := Lib.hid ((HR1.out.kept hk2 (by omega)).below hb3 hZ3)
      have hGx3 := ((HGx1.out.kept hk2 (by omega)).below hb3 (by have := HGx1.out.lt; have := hk2.size; omega))
      have HGx3 := Lib.hid hGx3
      have HEx3 := Lib.hid ((HEx1.out.kept hk2 (fun b hb (e : b = K) => by have := hb.1; omega)).below hb3)
      have o0 : w3.cell? ⟨w4.heap.size, 0, none⟩ = some (.int .i64 x.rule) := hGx3.cell 0
      have o1 : w3.cell? ⟨w4.heap.size, 1, none⟩ = some (.int .i64 x.term) := hGx3.cell 1
      have o2 : w3.cell? ⟨w4.heap.size, 2, none⟩ = some (.slice A9 x.kids.length c9) := hGx3.cell 2
      have zG3 : w4.heap.size < w3.heap.size := hGx3.lt
      have HW3 := Lib.hid hw3
      have H3 := Lib.hid hH3
      have HG3 := Lib.hid hG3
      have HS0 : Hid ((fun w' => w'.cell? ⟨K, 7, none⟩ = some (.map (some M)) ∧ w'.cell? ⟨w2.heap.size, 0, none⟩ = some (.int .i64 (-1)) ∧ w'.cell? ⟨w2.heap.size, 1, none⟩ = some (.int .i64 op) ∧ w'.cell? ⟨w2.heap.size, 2, none⟩ = some (.slice none 0 0) ∧ (Instr.lookup 172 (.map (some M)) (.int .i64 op) false).run Tryd.prog w' = .ok (.int .i64 (rulOf t op)) w') w3.drew) := Lib.hid (by
        have hd := hH3.below (below_drew _)
        exact ⟨hd.blk.cell 7, hG3.cell 0, hG3.cell 1, hG3.cell 2, hd.look F.out HOm.out HO64.out⟩)
      have z3 : w2.heap.size < w3.heap.size := hG3.lt
      have zG2 : w4.heap.size < w2.heap.size := by have := hk2.size; omega
      have zo3 : wo.heap.size ≤ w3.heap.size := by have := hk2.size; omega
      clear hK2 hk2 hb3 hw3 hH3 hG3
      clear hGx3
      go_wp2_with fail
      rw [← HW3.out]
      refine wp_region_noPanic ?_
      refine wp_region_held_drew (S := (fun w' => w'.cell? ⟨K, 7, none⟩ = some (.map (some M)) ∧ w'.cell? ⟨w2.heap.size, 0, none⟩ = some (.int .i64 (-1)) ∧ w'.cell? ⟨w2.heap.size, 1, none⟩ = some (.int .i64 op) ∧ w'.cell? ⟨w2.heap.size, 2, none⟩ = some (.slice none 0 0) ∧ (Instr.lookup 172 (.map (some M)) (.int .i64 op) false).run Tryd.prog w' = .ok (.int .i64 (rulOf t op)) w')) (by kernel_rfl) ?hmc (fun hHeld => ?bmc)
      case hmc => exact HS0.out
      refine take_run (i := 0) (v := ?vmc0) rfl (by kernel_rfl) (by kernel_rfl) (by kernel_rfl) (fun _ _ _ h => h) (by rfl) ?ymc0 (by assumption) ?rmc0
      case ymc0 => (intro w hSw; (try dsimp only at hSw); go_simp; try with_reducible rfl)
      try simp only [Act.put, List.setIfInBounds_toArray, List.set_cons_zero, List.set_cons_succ]
      refine take_run (i := 1) (v := ?vmc1) rfl (by kernel_rfl) (by kernel_rfl) (by kernel_rfl) (fun _ _ _ h => h) (by rfl) ?ymc1 (by assumption) ?rmc1
      case ymc1 => (intro w hSw; (try dsimp only at hSw); go_simp; try with_reducible rfl)
      try simp only [Act.put, List.setIfInBounds_toArray, List.set_cons_zero, List.set_cons_succ]
      refine take_run (i := 2) (v := ?vmc2) rfl (by kernel_rfl) (by kernel_rfl) (by kernel_rfl) (fun _ _ _ h => h) (by rfl) ?ymc2 (by assumption) ?rmc2
      case ymc2 => (intro w hSw; (try dsimp only at hSw); go_simp; try with_reducible rfl)
      try simp only [Act.put, List.setIfInBounds_toArray, List.set_cons_zero, List.set_cons_succ]
      refine take_run (i := 3) (v := ?vmc3) rfl (by kernel_rfl) (by kernel_rfl) (by kernel_rfl) (fun _ _ _ h => h) (by rfl) ?ymc3 (by assumption) ?rmc3
      case ymc3 => (intro w hSw; (try dsimp only at hSw); go_simp; try with_reducible rfl)
      try simp only [Act.put, List.setIfInBounds_toArray, List.set_cons_zero, List.set_cons_succ]
      refine take_run (i := 4) (v := ?vmc4) rfl (by kernel_rfl) (by kernel_rfl) (by kernel_rfl) (fun _ _ _ h => h) (by rfl) ?ymc4 (by assumption) ?rmc4
      case ymc4 => (intro w hSw; (try dsimp only at hSw); go_simp; try with_reducible rfl)
      try simp only [Act.put, List.setIfInBounds_toArray, List.set_cons_zero, List.set_cons_succ]
      refine take_run (i := 5) (v := .int .i64 (rulOf t op)) rfl (by kernel_rfl) (by kernel_rfl) (by kernel_rfl) (fun _ _ _ h => h) (by rfl) ?ymc5 (by assumption) ?rmc5
      case ymc5 => (intro w hSw; (try dsimp only at hSw); try go_simp; first | done | omega | (simp [hSw]; done) | trace_state)
      try simp only [Act.put, List.setIfInBounds_toArray, List.set_cons_zero, List.set_cons_succ]
      refine take_run (i := 7) (v := ?vmc7) rfl (by kernel_rfl) (by kernel_rfl) (by kernel_rfl) (fun _ _ _ h => h) (by rfl) ?ymc7 (by assumption) ?rmc7
      case ymc7 => (intro w hSw; (try dsimp only at hSw); go_simp; try with_reducible rfl)
      try simp only [Act.put, List.setIfInBounds_toArray, List.set_cons_zero, List.set_cons_succ]
      refine take_run (i := 8) (v := ?vmc8) rfl (by kernel_rfl) (by kernel_rfl) (by kernel_rfl) (fun _ _ _ h => h) (by rfl) ?ymc8 (by assumption) ?rmc8
      case ymc8 => (intro w hSw; (try dsimp only at hSw); go_simp; try with_reducible rfl)
      try simp only [Act.put, List.setIfInBounds_toArray, List.set_cons_zero, List.set_cons_succ]
      refine take_run (i := 9) (v := ?vmc9) rfl (by kernel_rfl) (by kernel_rfl) (by kernel_rfl) (fun _ _ _ h => h) (by rfl) ?ymc9 (by assumption) ?rmc9
      case ymc9 => (intro w hSw; (try dsimp only at hSw); go_simp; try with_reducible rfl)
      try simp only [Act.put, List.setIfInBounds_toArray, List.set_cons_zero, List.set_cons_succ]
      refine take_two (i := 6) (j := 10) rfl rfl (by kernel_rfl) (by rfl) (by rfl) (fun Kq hK => ?onem6) (fun Kq hK => ?twom6)
      case onem6 =>
        go_simp
        refine hK.out _ _ ?hmc6 (fun hHeld => ?rmc6)
        case hmc6 => exact HS0.out
        clear hK Kq
        try simp only [Act.put, List.setIfInBounds_toArray, List.set_cons_zero, List.set_cons_succ]
        refine take_call (i := 10) rfl (by kernel_rfl) (by rfl) (fun Kq hK => ?_)
        go_simp
        go_at_call 115
        refine (HP.out _ (H3.out.below (below_drew _))).mono ?_
        rintro e w6 ⟨⟨A6, c6, rfl, i1, i2, i3, i4, hE6⟩, hC6, hk6⟩
        have hR6 := HR3.out.kept hk6.undrew (by omega)
        have hG6 := HG3.out.kept hk6.undrew (by omega)
        have hGx6 := HGx3.out.kept hk6.undrew (by omega)
        have HS : Hid (∀ w', Kept (fun b => b = w4.heap.size) w6 w' → (fun w' => w'.cell? ⟨K, 7, none⟩ = some (.map (some M)) ∧ w'.cell? ⟨w2.heap.size, 0, none⟩ = some (.int .i64 (-1)) ∧ w'.cell? ⟨w2.heap.size, 1, none⟩ = some (.int .i64 op) ∧ w'.cell? ⟨w2.heap.size, 2, none⟩ = some (.slice none 0 0) ∧ (Instr.lookup 172 (.map (some M)) (.int .i64 op) false).run Tryd.prog w' = .ok (.int .i64 (rulOf t op)) w') w') := Lib.hid (fun w' kR => by
          have hC' := HH.out.kept F.out ((HK3.out.trans hk6.undrew).later kR (fun b (hb : b = w4.heap.size) => .inr (by omega))) hC6.le (hC6.blk.kept kR (by omega))
          have hG' := hG6.kept kR (by omega)
          exact ⟨hC'.blk.cell 7, hG'.cell 0, hG'.cell 1, hG'.cell 2, hC'.look F.out HOm.out HO64.out⟩)
        have HE6 := Lib.hid (And.intro i1 (And.intro i2 (And.intro i3 (And.intro i4 hE6))))
        have HK6 := Lib.hid (And.intro hC6 (And.intro hk6.undrew (And.intro hR6 (And.intro hGx6 (HEx3.out.kept hk6.undrew (fun b hb (e : b = K) => by have := hb.1; omega))))))
        have p0 : w6.cell? ⟨w4.heap.size, 0, none⟩ = some (.int .i64 x.rule) := hGx6.cell 0
        have p1 : w6.cell? ⟨w4.heap.size, 1, none⟩ = some (.int .i64 x.term) := hGx6.cell 1
        have p2 : w6.cell? ⟨w4.heap.size, 2, none⟩ = some (.slice A9 x.kids.length c9) := hGx6.cell 2
        have f0 := hGx6.frozen 0
        have f1 := hGx6.frozen 1
        have f2 := hGx6.frozen 2
        have zzG : w4.heap.size < w6.heap.size := hGx6.lt
        clear i1 i2 i3 i4 hE6 hC6 hk6 hR6 hG6 hGx6 o0 o1 o2
        refine hK.out _ _ ?hmd10 (fun hHeld => ?rmd10)
        case hmd10 => (first | exact HS.out _ (Kept.refl _ _) | exact HS.out _ ((Kept.refl _ _).alloc _) | exact HS.out _ (((((Kept.refl (fun b => b = w4.heap.size) _).setCell (p := ⟨w4.heap.size, 0, none⟩) (.inl rfl) _).setCell (p := ⟨w4.heap.size, 1, none⟩) (.inl rfl) _).setCell (p := ⟨w4.heap.size, 2, none⟩) (.inl rfl) _).alloc _))
        clear hK Kq
        try simp only [Act.put, List.setIfInBounds_toArray, List.set_cons_zero, List.set_cons_succ]
        refine take_call (i := 11) rfl (by kernel_rfl) (by rfl) (fun Kq hK => ?_)
        go_simp
        refine hK.out _ _ ?hme11 (fun hHeld => ?rme11)
        case hme11 => (first | exact HS.out _ (Kept.refl _ _) | exact HS.out _ ((Kept.refl _ _).alloc _) | exact HS.out _ (((((Kept.refl (fun b => b = w4.heap.size) _).setCell (p := ⟨w4.heap.size, 0, none⟩) (.inl rfl) _).setCell (p := ⟨w4.heap.size, 1, none⟩) (.inl rfl) _).setCell (p := ⟨w4.heap.size, 2, none⟩) (.inl rfl) _).alloc _))
        clear hK Kq
        try simp only [Act.put, List.setIfInBounds_toArray, List.set_cons_zero, List.set_cons_succ]
        refine take_call (i := 12) rfl (by kernel_rfl) (by rfl) (fun Kq hK => ?_)
        go_simp
        refine hK.out _ _ ?hme12 (fun hHeld => ?rme12)
        case hme12 => (first | exact HS.out _ (Kept.refl _ _) | exact HS.out _ ((Kept.refl _ _).alloc _) | exact HS.out _ (((((Kept.refl (fun b => b = w4.heap.size) _).setCell (p := ⟨w4.heap.size, 0, none⟩) (.inl rfl) _).setCell (p := ⟨w4.heap.size, 1, none⟩) (.inl rfl) _).setCell (p := ⟨w4.heap.size, 2, none⟩) (.inl rfl) _).alloc _))
        clear hK Kq
        try simp only [Act.put, List.setIfInBounds_toArray, List.set_cons_zero, List.set_cons_succ]
        refine take_call (i := 13) rfl (by kernel_rfl) (by rfl) (fun Kq hK => ?_)
        go_simp
        refine hK.out _ _ ?hme13 (fun hHeld => ?rme13)
        case hme13 => (first | exact HS.out _ (Kept.refl _ _) | exact HS.out _ ((Kept.refl _ _).alloc _) | exact HS.out _ (((((Kept.refl (fun b => b = w4.heap.size) _).setCell (p := ⟨w4.heap.size, 0, none⟩) (.inl rfl) _).setCell (p := ⟨w4.heap.size, 1, none⟩) (.inl rfl) _).setCell (p := ⟨w4.heap.size, 2, none⟩) (.inl rfl) _).alloc _))
        clear hK Kq
        try simp only [Act.put, List.setIfInBounds_toArray, List.set_cons_zero, List.set_cons_succ]
        refine wpAnyH_done (by kernel_rfl) ?_ _
        refine NoPanic.normal ?_
        generalize hwF : World.alloc _ _ = wF
        obtain ⟨⟨⟨u0, u1, u2⟩, hC, hKw⟩, hN, hz, hKF⟩ := node_fin HH.out F.out (HK3.out.trans HK6.out.2.1) HK6.out.1.blk HK6.out.1.le HK6.out.2.2.2.1 (by omega) hwF.symm
        have hGF : Blk' wF w4.heap.size 27 #[.int .i64 (rulOf t op), .int .i64 0, .slice (some ⟨w6.heap.size, 0, none⟩) 3 3] := by rw [← hwF]; exact (((HK6.out.2.2.2.1.set_ 0 _).set_ 1 _).set_ 2 _).alloc _
        clear hwF
        have z36 := HK6.out.2.1.size
        have hRF := HK6.out.2.2.1.kept hKF (by omega)
        have hEx := HK6.out.2.2.2.2.kept hKF (fun b hb (e : b = w4.heap.size) => hb.2.1 e)
        have hEy := HE6.out.2.2.2.2.kept hKF (fun b hb (e : b = w4.heap.size) => by have := hb.1; simp at this; omega)
        have hEF : Els wF (fun b => w.heap.size < b ∧ b ≠ w4.heap.size ∧ b < wF.heap.size) [x, leafT op, y] (some ⟨w6.heap.size, 0, none⟩) :=
          els_trio (cs := [_, _, _]) (ds := [_, _, _]) (fs := [_, _, _]) hN rfl (rd_node HX.out.1 HX.out.2.1 HX.out.2.2.1 HX.out.2.2.2 (hEx.keep (fun _ _ _ => rfl) (fun b hb => ⟨hb.1, hb.2.1, by have := hb.2.2; omega⟩))) (rd_leaf HO64.out) (rd_node HE6.out.1 HE6.out.2.1 HE6.out.2.2.1 HE6.out.2.2.2.1 (hEy.keep (fun _ _ _ => rfl) (fun b hb => ⟨by have := hb.1; simp at this; omega, by have := hb.1; simp at this; omega, by have := hb.2; omega⟩))) ⟨by omega, by omega, by omega⟩
        have HFin := Lib.hid (And.intro hC (And.intro hKw (And.intro hGF (And.intro hEF hRF))))
        have k1b : (lv.kind != 1) = false := by simp [HK1b.out]
        clear hC hKw hN hKF hEx hEy hEF hRF hGF p0 p1 p2 f0 f1 f2 u0 u1 u2
        go_wp2_with fail
        go_roundg n1
        case measure => omega
        case rel => exact ⟨⟨rulOf t op, 0, [x, leafT op, y]⟩, q', _, 3, HLr.out, HFin.out.1, HFin.out.2.1, HFin.out.2.2.1, ⟨HRi.out, i64_0, Nat.le_refl _, by show 3 ≤ _; omega⟩, HFin.out.2.2.2.1, HFin.out.2.2.2.2⟩
      case twom6 =>
        go_simp
        go_at_call 115
        refine (HP.out _ (H3.out.below (below_drew _))).mono ?_
        rintro e w6 ⟨⟨A6, c6, rfl, i1, i2, i3, i4, hE6⟩, hC6, hk6⟩
        have hR6 := HR3.out.kept hk6.undrew (by omega)
        have hG6 := HG3.out.kept hk6.undrew (by omega)
        have hGx6 := HGx3.out.kept hk6.undrew (by omega)
        have HS : Hid (∀ w', Kept (fun b => b = w4.heap.size) w6 w' → (fun w' => w'.cell? ⟨K, 7, none⟩ = some (.map (some M)) ∧ w'.cell? ⟨w2.heap.size, 0, none⟩ = some (.int .i64 (-1)) ∧ w'.cell? ⟨w2.heap.size, 1, none⟩ = some (.int .i64 op) ∧ w'.cell? ⟨w2.heap.size, 2, none⟩ = some (.slice none 0 0) ∧ (Instr.lookup 172 (.map (some M)) (.int .i64 op) false).run Tryd.prog w' = .ok (.int .i64 (rulOf t op)) w') w') := Lib.hid (fun w' kR => by
          have hC' := HH.out.kept F.out ((HK3.out.trans hk6.undrew).later kR (fun b (hb : b = w4.heap.size) => .inr (by omega))) hC6.le (hC6.blk.kept kR (by omega))
          have hG' := hG6.kept kR (by omega)
          exact ⟨hC'.blk.cell 7, hG'.cell 0, hG'.cell 1, hG'.cell 2, hC'.look F.out HOm.out HO64.out⟩)
        have HE6 := Lib.hid (And.intro i1 (And.intro i2 (And.intro i3 (And.intro i4 hE6))))
        have HK6 := Lib.hid (And.intro hC6 (And.intro hk6.undrew (And.intro hR6 (And.intro hGx6 (HEx3.out.kept hk6.undrew (fun b hb (e : b = K) => by have := hb.1; omega))))))
        have p0 : w6.cell? ⟨w4.heap.size, 0, none⟩ = some (.int .i64 x.rule) := hGx6.cell 0
        have p1 : w6.cell? ⟨w4.heap.size, 1, none⟩ = some (.int .i64 x.term) := hGx6.cell 1
        have p2 : w6.cell? ⟨w4.heap.size, 2, none⟩ = some (.slice A9 x.kids.length c9) := hGx6.cell 2
        have f0 := hGx6.frozen 0
        have f1 := hGx6.frozen 1
        have f2 := hGx6.frozen 2
        have zzG : w4.heap.size < w6.heap.size := hGx6.lt
        clear i1 i2 i3 i4 hE6 hC6 hk6 hR6 hG6 hGx6 o0 o1 o2
        refine hK.out _ _ ?hmc10 (fun hHeld => ?rmc10)
        case hmc10 => (first | exact HS.out _ (Kept.refl _ _) | exact HS.out _ ((Kept.refl _ _).alloc _) | exact HS.out _ (((((Kept.refl (fun b => b = w4.heap.size) _).setCell (p := ⟨w4.heap.size, 0, none⟩) (.inl rfl) _).setCell (p := ⟨w4.heap.size, 1, none⟩) (.inl rfl) _).setCell (p := ⟨w4.heap.size, 2, none⟩) (.inl rfl) _).alloc _))
        clear hK Kq
        try simp only [Act.put, List.setIfInBounds_toArray, List.set_cons_zero, List.set_cons_succ]
        refine take_call (i := 6) rfl (by kernel_rfl) (by rfl) (fun Kq hK => ?_)
        go_simp
        refine hK.out _ _ ?hmg6 (fun hHeld => ?rmg6)
        case hmg6 => (first | exact HS.out _ (Kept.refl _ _) | exact HS.out _ ((Kept.refl _ _).alloc _) | exact HS.out _ (((((Kept.refl (fun b => b = w4.heap.size) _).setCell (p := ⟨w4.heap.size, 0, none⟩) (.inl rfl) _).setCell (p := ⟨w4.heap.size, 1, none⟩) (.inl rfl) _).setCell (p := ⟨w4.heap.size, 2, none⟩) (.inl rfl) _).alloc _))
        clear hK Kq
        try simp only [Act.put, List.setIfInBounds_toArray, List.set_cons_zero, List.set_cons_succ]
        refine take_call (i := 11) rfl (by kernel_rfl) (by rfl) (fun Kq hK => ?_)
        go_simp
        refine hK.out _ _ ?hmg11 (fun hHeld => ?rmg11)
        case hmg11 => (first | exact HS.out _ (Kept.refl _ _) | exact HS.out _ ((Kept.refl _ _).alloc _) | exact HS.out _ (((((Kept.refl (fun b => b = w4.heap.size) _).setCell (p := ⟨w4.heap.size, 0, none⟩) (.inl rfl) _).setCell (p := ⟨w4.heap.size, 1, none⟩) (.inl rfl) _).setCell (p := ⟨w4.heap.size, 2, none⟩) (.inl rfl) _).alloc _))
        clear hK Kq
        try simp only [Act.put, List.setIfInBounds_toArray, List.set_cons_zero, List.set_cons_succ]
        refine take_call (i := 12) rfl (by kernel_rfl) (by rfl) (fun Kq hK => ?_)
        go_simp
        refine hK.out _ _ ?hmg12 (fun hHeld => ?rmg12)
        case hmg12 => (first | exact HS.out _ (Kept.refl _ _) | exact HS.out _ ((Kept.refl _ _).alloc _) | exact HS.out _ (((((Kept.refl (fun b => b = w4.heap.size) _).setCell (p := ⟨w4.heap.size, 0, none⟩) (.inl rfl) _).setCell (p := ⟨w4.heap.size, 1, none⟩) (.inl rfl) _).setCell (p := ⟨w4.heap.size, 2, none⟩) (.inl rfl) _).alloc _))
        clear hK Kq
        try simp only [Act.put, List.setIfInBounds_toArray, List.set_cons_zero, List.set_cons_succ]
        refine take_call (i := 13) rfl (by kernel_rfl) (by rfl) (fun Kq hK => ?_)
        go_simp
        refine hK.out _ _ ?hmg13 (fun hHeld => ?rmg13)
        case hmg13 => (first | exact HS.out _ (Kept.refl _ _) | exact HS.out _ ((Kept.refl _ _).alloc _) | exact HS.out _ (((((Kept.refl (fun b => b = w4.heap.size) _).setCell (p := ⟨w4.heap.size, 0, none⟩) (.inl rfl) _).setCell (p := ⟨w4.heap.size, 1, none⟩) (.inl rfl) _).setCell (p := ⟨w4.heap.size, 2, none⟩) (.inl rfl) _).alloc _))
        clear hK Kq
        try simp only [Act.put, List.setIfInBounds_toArray, List.set_cons_zero, List.set_cons_succ]
        refine wpAnyH_done (by kernel_rfl) ?_ _
        refine NoPanic.normal ?_
        generalize hwF : World.alloc _ _ = wF
        obtain ⟨⟨⟨u0, u1, u2⟩, hC, hKw⟩, hN, hz, hKF⟩ := node_fin HH.out F.out (HK3.out.trans HK6.out.2.1) HK6.out.1.blk HK6.out.1.le HK6.out.2.2.2.1 (by omega) hwF.symm
        have hGF : Blk' wF w4.heap.size 27 #[.int .i64 (rulOf t op), .int .i64 0, .slice (some ⟨w6.heap.size, 0, none⟩) 3 3] := by rw [← hwF]; exact (((HK6.out.2.2.2.1.set_ 0 _).set_ 1 _).set_ 2 _).alloc _
        clear hwF
        have z36 := HK6.out.2.1.size
        have hRF := HK6.out.2.2.1.kept hKF (by omega)
        have hEx := HK6.out.2.2.2.2.kept hKF (fun b hb (e : b = w4.heap.size) => hb.2.1 e)
        have hEy := HE6.out.2.2.2.2.kept hKF (fun b hb (e : b = w4.heap.size) => by have := hb.1; simp at this; omega)
        have hEF : Els wF (fun b => w.heap.size < b ∧ b ≠ w4.heap.size ∧ b < wF.heap.size) [x, leafT op, y] (some ⟨w6.heap.size, 0, none⟩) :=
          els_trio (cs := [_, _, _]) (ds := [_, _, _]) (fs := [_, _, _]) hN rfl (rd_node HX.out.1 HX.out.2.1 HX.out.2.2.1 HX.out.2.2.2 (hEx.keep (fun _ _ _ => rfl) (fun b hb => ⟨hb.1, hb.2.1, by have := hb.2.2; omega⟩))) (rd_leaf HO64.out) (rd_node HE6.out.1 HE6.out.2.1 HE6.out.2.2.1 HE6.out.2.2.2.1 (hEy.keep (fun _ _ _ => rfl) (fun b hb => ⟨by have := hb.1; simp at this; omega, by have := hb.1; simp at this; omega, by have := hb.2; omega⟩))) ⟨by omega, by omega, by omega⟩
        have HFin := Lib.hid (And.intro hC (And.intro hKw (And.intro hGF (And.intro hEF hRF))))
        have k1b : (lv.kind != 1) = false := by simp [HK1b.out]
        clear hC hKw hN hKF hEx hEy hEF hRF hGF p0 p1 p2 f0 f1 f2 u0 u1 u2
        go_wp2_with fail
        go_roundg n1
        case measure => omega
        case rel => exact ⟨⟨rulOf t op, 0, [x, leafT op, y]⟩, q', _, 3, HLr.out, HFin.out.1, HFin.out.2.1, HFin.out.2.2.1, ⟨HRi.out, i64_0, Nat.le_refl _, by show 3 ≤ _; omega⟩, HFin.out.2.2.2.1, HFin.out.2.2.2.2⟩
end Go.Proofs.YtjdojogjogenkaaDoor
