/- Contract: the climber's parse, of prec: all but the loop. -/
import Derived.Test.YtjdojogjogenkaaDoorQClimbO
namespace Go.Proofs.YtjdojogjogenkaaDoor
open Go.RowKit
set_option linter.unusedVariables false

/-- The operand, by its cases. -/
theorem operand_any {t : Table} {l : List Int} {K : Nat} {A : Option Addr} {c : Nat} {B : Option Addr} {d M mn : Nat} {D : DataW Unit} {S St : Nat → Prop} {p : Nat} {w : World} (P : Nat → Nat → Res → Prop) (h : ClW t l K A c B d M mn D S St p w) (f : ClF t l K M D S St) (hP : ∀ (p1 : Nat) (r1 : Res) (w1 : World), P 0 p1 r1 → ClW t l K A c B d M mn D S St p1 w1 → Calls Tryd.prog 115 #[.pointer (some ⟨K, 0, none⟩), .int .i64 0] w1 (RetP (ClW t l K A c B d M mn D S St) K r1 w1)) (r : Res) (hr : Opd t l P p r) :
    Calls Tryd.prog 142 #[.pointer (some ⟨K, 0, none⟩)] w (RetP (ClW t l K A c B d M mn D S St) K r w) := by
  cases hbk : brk t
  · exact opd_plain_a P h f hbk (fun e => by rw [hbk] at e; simp at e) r hr
  · by_cases hp : p < l.length
    · obtain ⟨o, ho⟩ := get_some hp
      by_cases hoo : o = t.opn
      · subst hoo
        exact opd_brk P h f hP hbk ho r hr
      · exact opd_plain_c P h f hbk ho hoo (fun e => hoo (by have := e.2; rw [ho] at this; injection this)) r hr
    · have hpe : p = l.length := by have := h.le; omega
      exact opd_plain_b P h f hbk hpe (fun e => by have := (List.getElem?_eq_some_iff.1 e.2).1; omega) r hr
theorem wf_of_i64 {a : Int} (h : I64 a) : (Lit.int .i64 a).wf = true := WalkArith.wf_i64 h
theorem zeroIntC (w : World) : (zeroValue 3).run Tryd.prog w = .ok (.int .i64 0) w := by kernel_rfl
/-- The number of an operator's rule, looked up. -/
theorem ClW.look {t : Table} {l : List Int} {K : Nat} {A : Option Addr} {c : Nat} {B : Option Addr} {d M mn : Nat} {D : DataW Unit} {S St : Nat → Prop} {p : Nat} {w : World} (h : ClW t l K A c B d M mn D S St p w) (f : ClF t l K M D S St) {op : Int} (ho : op ∈ opsL t) (h64 : I64 op) : (Instr.lookup 172 (.map (some M)) (.int .i64 op) false).run Tryd.prog w = .ok (.int .i64 (rulOf t op)) w := by
  have hat0 := f.at_ op ho
  obtain ⟨cn, hlk, hat, _⟩ := h.map.lookup_int (Maps.int_keyed Tryd.underlying3) Tryd.underlying172 Tryd.underlying3 (zeroIntC _) (Maps.keyOf_int_mk Tryd.underlying3 (wf_of_i64 h64))
  rw [hat0] at hat
  have e := (Lit.int.inj (DataW.lit.inj hat)).2
  rw [e, hlk]
set_option maxRecDepth 10000 in
theorem rulOf_i64 {t : Table} (hl : (opsL t).length ≤ 1000000) (op : Int) : I64 (rulOf t op) := by
  have h1 : (opsL t).idxOf op ≤ (opsL t).length := List.idxOf_le_length
  have h2 : baseN t ≤ 2 := by unfold baseN; split <;> omega
  unfold rulOf I64
  omega
/-- The result's variable takes what a call handed back. -/
theorem ret_ok {t : Table} {l : List Int} {K : Nat} {A : Option Addr} {c : Nat} {B : Option Addr} {d M mn : Nat} {D : DataW Unit} {S St : Nat → Prop} {p q R : Nat} {w w0 w2 wF : World} {x : Tree} {A2 : Option Addr} {c2 : Nat} {a0 a1 a2 : Value}
    (h : ClW t l K A c B d M mn D S St p w) (f : ClF t l K M D S St) (hk0 : Kept (fun b => b = K) w w0) (hRw : w.heap.size ≤ R) (hR0 : R < w0.heap.size) (hE : Els w2 (fun b => w0.heap.size ≤ b ∧ b < w2.heap.size) x.kids A2) (hC2 : ClW t l K A c B d M mn D S St q w2) (hk2 : Kept (fun b => b = K) w0 w2) (hR : Blk' w2 R 27 #[a0, a1, a2])
    (hF : wF = ((w2.setCell ⟨R, 0, none⟩ (.int .i64 x.rule)).setCell ⟨R, 1, none⟩ (.int .i64 x.term)).setCell ⟨R, 2, none⟩ (.slice A2 x.kids.length c2)) :
    (wF.cell? ⟨R, 0, none⟩ = some (.int .i64 x.rule) ∧ wF.cell? ⟨R, 1, none⟩ = some (.int .i64 x.term) ∧ wF.cell? ⟨R, 2, none⟩ = some (.slice A2 x.kids.length c2)) ∧ Els wF (fun b => w.heap.size ≤ b ∧ b < wF.heap.size) x.kids A2 ∧ ClW t l K A c B d M mn D S St q wF ∧ Kept (fun b => b = K) w wF := by
  have hKF : Kept (fun b => b = R) w2 wF := by
    rw [hF]
    exact (((Kept.refl (fun b => b = R) w2).setCell (p := ⟨R, 0, none⟩) (.inl rfl) _).setCell (p := ⟨R, 1, none⟩) (.inl rfl) _).setCell (p := ⟨R, 2, none⟩) (.inl rfl) _
  have hRF : Blk' wF R 27 #[.int .i64 x.rule, .int .i64 x.term, .slice A2 x.kids.length c2] := by
    rw [hF]
    exact ((hR.set_ 0 _).set_ 1 _).set_ 2 _
  have hz : wF.heap.size = w2.heap.size := by rw [hF]; simp [World.setCell]
  have hKw : Kept (fun b => b = K) w wF := (hk0.trans hk2).later hKF (fun b hb => .inr (by have h1 : b = R := hb; omega))
  have zK := h.blk.lt
  have zw := hk0.size
  refine ⟨⟨hRF.cell 0, hRF.cell 1, hRF.cell 2⟩, ?_, h.kept f hKw hC2.le (hC2.blk.kept hKF (by omega)), hKw⟩
  exact (hE.kept hKF (fun b hb (e : b = R) => by have := hb.1; omega)).keep (fun _ _ _ => rfl) (fun b hb => ⟨by have := hb.1; omega, by have := hb.2; omega⟩)
/-- The kind of a level, in memory. -/
theorem ClW.lev {t : Table} {l : List Int} {K : Nat} {A : Option Addr} {c : Nat} {B : Option Addr} {d M mn : Nat} {D : DataW Unit} {S St : Nat → Prop} {p : Nat} {w : World} (h : ClW t l K A c B d M mn D S St p w) {k : Nat} {lv : Level} (hl : t.levels[k]? = some lv) : ∃ b o, A = some ⟨b, o, none⟩ ∧ w.cell? ⟨b, o + k * 2, none⟩ = some (.int .i64 lv.kind) := by
  obtain ⟨b, o, A', c', h1, _, _, _, _, _, _, h2, _⟩ := h.levs.level hl
  exact ⟨b, o, h1, h2⟩


set_option maxRecDepth 100000 in
set_option maxHeartbeats 2000000 in
/-- Behind the last level: the operand. -/
theorem parse_opd {t : Table} {l : List Int} {K : Nat} {A : Option Addr} {c : Nat} {B : Option Addr} {d M mn : Nat} {D : DataW Unit} {S St : Nat → Prop} {p : Nat} {w : World} (P : Nat → Nat → Res → Prop) (h : ClW t l K A c B d M mn D S St p w) (f : ClF t l K M D S St) {k : Nat} (hP : ∀ (p1 : Nat) (r1 : Res) (w1 : World), P 0 p1 r1 → ClW t l K A c B d M mn D S St p1 w1 → Calls Tryd.prog 115 #[.pointer (some ⟨K, 0, none⟩), .int .i64 0] w1 (RetP (ClW t l K A c B d M mn D S St) K r1 w1)) (hkL : k = t.levels.length) (r : Res) (hr : Opd t l P p r) :
    Calls Tryd.prog 115 #[.pointer (some ⟨K, 0, none⟩), .int .i64 k] w (RetP (ClW t l K A c B d M mn D S St) K r w) := by
  obtain ⟨w0, hw0⟩ : ∃ w0 : World, w0 = w.alloc (.cells #[.int .i64 0, .int .i64 0, .slice none 0 0] 27) := ⟨_, rfl⟩
  have hb0 : Below w.heap.size w w0 := by rw [hw0]; exact (Below.refl _ _).alloc (Nat.le_refl _) _
  have hR0 : Blk' w0 w.heap.size 27 #[.int .i64 0, .int .i64 0, .slice none 0 0] := by rw [hw0]; exact Blk'.new w _ _
  have h0 := h.below hb0
  have HB0 := Lib.hid hb0
  have HR0 := Lib.hid hR0
  have H0 := Lib.hid h0
  have F := Lib.hid f
  have HH := Lib.hid h
  have zK : K < w0.heap.size := h0.blk.lt
  have zR : w.heap.size < w0.heap.size := hR0.lt
  have hsm := f.small
  have hle := h.le
  have zKR : K < w.heap.size := h.blk.lt
  subst hkL
  have k4 : w0.cell? ⟨K, 4, none⟩ = some (.slice A t.levels.length c) := h0.blk.cell 4
  have hself : (((t.levels.length : Nat) : Int) == ((t.levels.length : Nat) : Int)) = true := by simp
  have HC := Lib.hid (operand_any P h0 f hP r hr)
  have HW := Lib.hid hw0
  have HK0 := Lib.hid (Kept.of_below (fun b => b = K) HB0.out)
  clear hb0 hR0 h0 h f hw0 hsm hle hP hr
  go_enter Tryd.func115, Tryd.ntmps115
  go_upto_region 1 with (fail)
  rw [← HW.out]
  go_wp2_with fail
  refine (HC.out).mono ?_
  rintro e w9 hret
  cases r with
  | rej q =>
    obtain ⟨rfl, hC, hk⟩ := hret
    exact ⟨rfl, rfl, hC, HK0.out.trans hk⟩
  | ok x q =>
    obtain ⟨⟨A9, c9, rfl, i1, i2, i3, i4, hE9⟩, hC9, hk9⟩ := hret
    have hR9 := HR0.out.kept hk9 (by omega)
    have HH9 := Lib.hid (And.intro i1 (And.intro i2 (And.intro i3 (And.intro i4 (And.intro hE9 (And.intro hC9 (And.intro hk9 hR9)))))))
    have s0 := hR9.cell 0
    have s1 := hR9.cell 1
    have s2 := hR9.cell 2
    have r0 := hR9.frozen 0
    have r1 := hR9.frozen 1
    have r2 := hR9.frozen 2
    have z9 := hR9.lt
    clear i1 i2 i3 i4 hE9 hC9 hk9 hR9
    simp at s0 s1 s2
    go_wp2_with fail
    generalize hwF : World.setCell _ _ _ = wF
    obtain ⟨⟨u0, u1, u2⟩, hX, hC, hKw⟩ := ret_ok HH.out F.out HK0.out (Nat.le_refl _) HR0.out.lt HH9.out.2.2.2.2.1 HH9.out.2.2.2.2.2.1 HH9.out.2.2.2.2.2.2.1 HH9.out.2.2.2.2.2.2.2 hwF.symm
    clear hwF
    exact bodyPost_ret (v := .agg #[.int .i64 x.rule, .int .i64 x.term, .slice A9 x.kids.length c9]) (by simp [results, Tryd.results115, go_sem, u0, u1, u2]) rfl ⟨⟨A9, c9, rfl, HH9.out.1, HH9.out.2.1, HH9.out.2.2.1, HH9.out.2.2.2.1, hX⟩, hC, hKw⟩

set_option maxRecDepth 100000 in
set_option maxHeartbeats 2000000 in
/-- A level of prefix operators, of which none is next. -/
theorem parse_skip {t : Table} {l : List Int} {K : Nat} {A : Option Addr} {c : Nat} {B : Option Addr} {d M mn : Nat} {D : DataW Unit} {S St : Nat → Prop} {p : Nat} {w : World} (P : Nat → Nat → Res → Prop) (h : ClW t l K A c B d M mn D S St p w) (f : ClF t l K M D S St) {k : Nat} (hP : ∀ (p1 : Nat) (r1 : Res) (w1 : World), P (k + 1) p1 r1 → ClW t l K A c B d M mn D S St p1 w1 → Calls Tryd.prog 115 #[.pointer (some ⟨K, 0, none⟩), .int .i64 ((k : Int) + 1)] w1 (RetP (ClW t l K A c B d M mn D S St) K r1 w1)) {lv : Level} (hl : t.levels[k]? = some lv) (h3 : lv.kind = 3) (hno : ∀ o, l[p]? = some o → o ∉ lv.ops) (r : Res) (hr : P (k + 1) p r) :
    Calls Tryd.prog 115 #[.pointer (some ⟨K, 0, none⟩), .int .i64 k] w (RetP (ClW t l K A c B d M mn D S St) K r w) := by
  obtain ⟨w0, hw0⟩ : ∃ w0 : World, w0 = w.alloc (.cells #[.int .i64 0, .int .i64 0, .slice none 0 0] 27) := ⟨_, rfl⟩
  have hb0 : Below w.heap.size w w0 := by rw [hw0]; exact (Below.refl _ _).alloc (Nat.le_refl _) _
  have hR0 : Blk' w0 w.heap.size 27 #[.int .i64 0, .int .i64 0, .slice none 0 0] := by rw [hw0]; exact Blk'.new w _ _
  have h0 := h.below hb0
  have HB0 := Lib.hid hb0
  have HR0 := Lib.hid hR0
  have H0 := Lib.hid h0
  have F := Lib.hid f
  have HH := Lib.hid h
  have zK : K < w0.heap.size := h0.blk.lt
  have zR : w.heap.size < w0.heap.size := hR0.lt
  have hsm := f.small
  have hle := h.le
  have zKR : K < w.heap.size := h.blk.lt
  have hll := f.lev
  have hk9 : k < t.levels.length := (List.getElem?_eq_some_iff.1 hl).1
  obtain ⟨bl, ol, rfl, lc⟩ := h0.lev hl
  have hk0 : (0 : Int) ≤ (k : Int) := by omega
  have hk99 : (k : Int) < (t.levels.length : Int) := by omega
  have hkL : ¬ (k : Int) = (t.levels.length : Int) := by omega
  have hkb : ((k : Int) == (t.levels.length : Int)) = false := by simp; omega
  have k4 : w0.cell? ⟨K, 4, none⟩ = some (.slice (some ⟨bl, ol, none⟩) t.levels.length c) := h0.blk.cell 4
  have hwr : IntKind.i64.wrap ((k : Int) + 1) = (k : Int) + 1 := IntWalk.i64_in _ (by omega)
  rw [h3] at lc
  have HC := Lib.hid (op_no h0 f hl hno)
  have HP := Lib.hid (fun w1 h1 => hP p r w1 hr h1)
  have HW := Lib.hid hw0
  have HK0 := Lib.hid (Kept.of_below (fun b => b = K) HB0.out)
  clear hb0 hR0 h0 h f hw0 hsm hle hP hr hl hno h3
  go_enter Tryd.func115, Tryd.ntmps115
  go_upto_region 1 with (fail)
  rw [← HW.out]
  go_wp2_with fail
  refine HC.out.mono ?_
  rintro e w1 ⟨rfl, hb1⟩
  have H1 := Lib.hid (H0.out.below hb1)
  have HK1 := Lib.hid (HK0.out.below hb1)
  have HR1 := Lib.hid (HR0.out.below hb1 HR0.out.lt)
  clear hb1
  go_wp2_with fail
  refine (HP.out w1 H1.out).mono ?_
  rintro e w9 hret
  cases r with
  | rej q =>
    obtain ⟨rfl, hC, hk⟩ := hret
    exact ⟨rfl, rfl, hC, HK1.out.trans hk⟩
  | ok x q =>
    obtain ⟨⟨A9, c9, rfl, i1, i2, i3, i4, hE9⟩, hC9, hk9⟩ := hret
    have hR9 := HR1.out.kept hk9 (by omega)
    have HH9 := Lib.hid (And.intro i1 (And.intro i2 (And.intro i3 (And.intro i4 (And.intro hE9 (And.intro hC9 (And.intro hk9 hR9)))))))
    have s0 := hR9.cell 0
    have s1 := hR9.cell 1
    have s2 := hR9.cell 2
    have r0 := hR9.frozen 0
    have r1 := hR9.frozen 1
    have r2 := hR9.frozen 2
    have z9 := hR9.lt
    clear i1 i2 i3 i4 hE9 hC9 hk9 hR9
    simp at s0 s1 s2
    go_wp2_with fail
    generalize hwF : World.setCell _ _ _ = wF
    obtain ⟨⟨u0, u1, u2⟩, hX, hC, hKw⟩ := ret_ok HH.out F.out HK1.out (Nat.le_refl _) HR1.out.lt HH9.out.2.2.2.2.1 HH9.out.2.2.2.2.2.1 HH9.out.2.2.2.2.2.2.1 HH9.out.2.2.2.2.2.2.2 hwF.symm
    clear hwF
    exact bodyPost_ret (v := .agg #[.int .i64 x.rule, .int .i64 x.term, .slice A9 x.kids.length c9]) (by simp [results, Tryd.results115, go_sem, u0, u1, u2]) rfl ⟨⟨A9, c9, rfl, HH9.out.1, HH9.out.2.1, HH9.out.2.2.1, HH9.out.2.2.2.1, hX⟩, hC, hKw⟩

set_option maxRecDepth 100000 in
set_option maxHeartbeats 2000000 in
/-- A level of infix operators: its first part is rejected. -/
theorem parse_infRej {t : Table} {l : List Int} {K : Nat} {A : Option Addr} {c : Nat} {B : Option Addr} {d M mn : Nat} {D : DataW Unit} {S St : Nat → Prop} {p : Nat} {w : World} (P : Nat → Nat → Res → Prop) (h : ClW t l K A c B d M mn D S St p w) (f : ClF t l K M D S St) {k : Nat} (hP : ∀ (p1 : Nat) (r1 : Res) (w1 : World), P (k + 1) p1 r1 → ClW t l K A c B d M mn D S St p1 w1 → Calls Tryd.prog 115 #[.pointer (some ⟨K, 0, none⟩), .int .i64 ((k : Int) + 1)] w1 (RetP (ClW t l K A c B d M mn D S St) K r1 w1)) {lv : Level} (hl : t.levels[k]? = some lv) (h3 : lv.kind ≠ 3) (q : Nat) (hr : P (k + 1) p (.rej q)) :
    Calls Tryd.prog 115 #[.pointer (some ⟨K, 0, none⟩), .int .i64 k] w (RetP (ClW t l K A c B d M mn D S St) K (.rej q) w) := by
  obtain ⟨w0, hw0⟩ : ∃ w0 : World, w0 = w.alloc (.cells #[.int .i64 0, .int .i64 0, .slice none 0 0] 27) := ⟨_, rfl⟩
  have hb0 : Below w.heap.size w w0 := by rw [hw0]; exact (Below.refl _ _).alloc (Nat.le_refl _) _
  have hR0 : Blk' w0 w.heap.size 27 #[.int .i64 0, .int .i64 0, .slice none 0 0] := by rw [hw0]; exact Blk'.new w _ _
  have h0 := h.below hb0
  have HB0 := Lib.hid hb0
  have HR0 := Lib.hid hR0
  have H0 := Lib.hid h0
  have F := Lib.hid f
  have HH := Lib.hid h
  have zK : K < w0.heap.size := h0.blk.lt
  have zR : w.heap.size < w0.heap.size := hR0.lt
  have hsm := f.small
  have hle := h.le
  have zKR : K < w.heap.size := h.blk.lt
  have hll := f.lev
  have hk9 : k < t.levels.length := (List.getElem?_eq_some_iff.1 hl).1
  obtain ⟨bl, ol, rfl, lc⟩ := h0.lev hl
  have hk0 : (0 : Int) ≤ (k : Int) := by omega
  have hk99 : (k : Int) < (t.levels.length : Int) := by omega
  have hkL : ¬ (k : Int) = (t.levels.length : Int) := by omega
  have hkb : ((k : Int) == (t.levels.length : Int)) = false := by simp; omega
  have k4 : w0.cell? ⟨K, 4, none⟩ = some (.slice (some ⟨bl, ol, none⟩) t.levels.length c) := h0.blk.cell 4
  have hwr : IntKind.i64.wrap ((k : Int) + 1) = (k : Int) + 1 := IntWalk.i64_in _ (by omega)
  have h3b : (lv.kind == 3) = false := by simp [h3]
  have HP := Lib.hid (hP p _ w0 hr h0)
  have HW := Lib.hid hw0
  have HK0 := Lib.hid (Kept.of_below (fun b => b = K) HB0.out)
  clear hb0 hR0 h0 h f hw0 hsm hle hP hr hl
  go_enter Tryd.func115, Tryd.ntmps115
  go_upto_region 1 with (fail)
  rw [← HW.out]
  go_wp2_with fail
  refine HP.out.mono ?_
  rintro e w1 ⟨rfl, hC, hk⟩
  exact ⟨rfl, rfl, hC, HK0.out.trans hk⟩

set_option maxRecDepth 100000 in
set_option maxHeartbeats 2000000 in
/-- A prefix operator. -/
theorem parse_pre {t : Table} {l : List Int} {K : Nat} {A : Option Addr} {c : Nat} {B : Option Addr} {d M mn : Nat} {D : DataW Unit} {S St : Nat → Prop} {p : Nat} {w : World} (P : Nat → Nat → Res → Prop) (h : ClW t l K A c B d M mn D S St p w) (f : ClF t l K M D S St) {k : Nat} (hP : ∀ (p1 : Nat) (r1 : Res) (w1 : World), P k p1 r1 → ClW t l K A c B d M mn D S St p1 w1 → Calls Tryd.prog 115 #[.pointer (some ⟨K, 0, none⟩), .int .i64 k] w1 (RetP (ClW t l K A c B d M mn D S St) K r1 w1)) {lv : Level} (hl : t.levels[k]? = some lv) (h3 : lv.kind = 3) {op : Int} (ho : l[p]? = some op) (hm : op ∈ lv.ops) (y : Tree) (q : Nat) (hr : P k (p + 1) (.ok y q)) :
    Calls Tryd.prog 115 #[.pointer (some ⟨K, 0, none⟩), .int .i64 k] w (RetP (ClW t l K A c B d M mn D S St) K (.ok ⟨rulOf t op, 0, [leafT op, y]⟩ q) w) := by
  have HO64 := Lib.hid (els_i64 h.word ho)
  have HOm := Lib.hid (show op ∈ opsL t from List.mem_flatten.2 ⟨lv.ops, List.mem_map.2 ⟨lv, List.mem_of_getElem? hl, rfl⟩, hm⟩)
  have HRi := Lib.hid (rulOf_i64 f.opsn op)
  have HO := Lib.hid ho
  obtain ⟨w0, hw0⟩ : ∃ w0 : World, w0 = w.alloc (.cells #[.int .i64 0, .int .i64 0, .slice none 0 0] 27) := ⟨_, rfl⟩
  have hb0 : Below w.heap.size w w0 := by rw [hw0]; exact (Below.refl _ _).alloc (Nat.le_refl _) _
  have hR0 : Blk' w0 w.heap.size 27 #[.int .i64 0, .int .i64 0, .slice none 0 0] := by rw [hw0]; exact Blk'.new w _ _
  have h0 := h.below hb0
  have HB0 := Lib.hid hb0
  have HR0 := Lib.hid hR0
  have H0 := Lib.hid h0
  have F := Lib.hid f
  have HH := Lib.hid h
  have zK : K < w0.heap.size := h0.blk.lt
  have zR : w.heap.size < w0.heap.size := hR0.lt
  have hsm := f.small
  have hle := h.le
  have zKR : K < w.heap.size := h.blk.lt
  have hll := f.lev
  have hk9 : k < t.levels.length := (List.getElem?_eq_some_iff.1 hl).1
  obtain ⟨bl, ol, rfl, lc⟩ := h0.lev hl
  have hk0 : (0 : Int) ≤ (k : Int) := by omega
  have hk99 : (k : Int) < (t.levels.length : Int) := by omega
  have hkL : ¬ (k : Int) = (t.levels.length : Int) := by omega
  have hkb : ((k : Int) == (t.levels.length : Int)) = false := by simp; omega
  have k4 : w0.cell? ⟨K, 4, none⟩ = some (.slice (some ⟨bl, ol, none⟩) t.levels.length c) := h0.blk.cell 4
  have hwr : IntKind.i64.wrap ((k : Int) + 1) = (k : Int) + 1 := IntWalk.i64_in _ (by omega)
  rw [h3] at lc
  have HC := Lib.hid (op_yes h0 f hl ho hm)
  have HP := Lib.hid (fun w1 h1 => hP (p + 1) _ w1 hr h1)
  have hp9 : p < l.length := (List.getElem?_eq_some_iff.1 ho).1
  have HW := Lib.hid hw0
  have HK0 := Lib.hid (Kept.of_below (fun b => b = K) HB0.out)
  clear hb0 hR0 h0 h f hw0 hsm hle hP hr hl hm h3 ho
  go_enter Tryd.func115, Tryd.ntmps115
  go_upto_region 1 with (fail)
  rw [← HW.out]
  go_wp2_with fail
  refine HC.out.mono ?_
  rintro e w1 ⟨rfl, hb1⟩
  have HH1 := Lib.hid (H0.out.below hb1)
  have HK1 := Lib.hid (HK0.out.below hb1)
  have HR1 := Lib.hid (HR0.out.below hb1 HR0.out.lt)
  clear hb1
  go_wp2_with fail
  refine (take_hit K t.terms t.atom t.opn t.cls op _ _ l _ d p S w1 F.out.small HH1.out.blk HO.out HH1.out.word).mono ?_
  rintro e w2 ⟨rfl, hK2, hk2⟩
  obtain ⟨w3, hw3⟩ : ∃ w3 : World, w3 = w2.alloc (.cells #[.int .i64 (-1), .int .i64 op, .slice none 0 0] 27) := ⟨_, rfl⟩
  have hb3 : Below w2.heap.size w2 w3 := by rw [hw3]; exact (Below.refl _ _).alloc (Nat.le_refl _) _
  have hH3 := ((HH1.out.kept F.out hk2 (show p + 1 ≤ l.length by omega) hK2).below hb3)
  have hG3 : Blk' w3 w2.heap.size 27 #[.int .i64 (-1), .int .i64 op, .slice none 0 0] := by rw [hw3]; exact Blk'.new w2 _ _
  have HK3 := Lib.hid ((HK1.out.trans hk2).below hb3)
  have hZ3 : w.heap.size < w2.heap.size := by have := HR1.out.lt; have := hk2.size; omega
  have HR3 := Lib.hid ((HR1.out.kept hk2 (by omega)).below hb3 hZ3)
  have HW3 := Lib.hid hw3
  have H3 := Lib.hid hH3
  have HG3 := Lib.hid hG3
  have HS0 : Hid ((fun w' => w'.cell? ⟨K, 7, none⟩ = some (.map (some M)) ∧ w'.cell? ⟨w2.heap.size, 0, none⟩ = some (.int .i64 (-1)) ∧ w'.cell? ⟨w2.heap.size, 1, none⟩ = some (.int .i64 op) ∧ w'.cell? ⟨w2.heap.size, 2, none⟩ = some (.slice none 0 0) ∧ (Instr.lookup 172 (.map (some M)) (.int .i64 op) false).run Tryd.prog w' = .ok (.int .i64 (rulOf t op)) w') w3.drew) := Lib.hid (by
    have hd := hH3.below (below_drew _)
    exact ⟨hd.blk.cell 7, hG3.cell 0, hG3.cell 1, hG3.cell 2, hd.look F.out HOm.out HO64.out⟩)
  have z3 : w2.heap.size < w3.heap.size := hG3.lt
  clear hK2 hk2 hb3 hw3 hH3 hG3
  go_wp2_with fail
  rw [← HW3.out]
  refine wp_region_noPanic ?_
  refine wp_region_held_drew (S := (fun w' => w'.cell? ⟨K, 7, none⟩ = some (.map (some M)) ∧ w'.cell? ⟨w2.heap.size, 0, none⟩ = some (.int .i64 (-1)) ∧ w'.cell? ⟨w2.heap.size, 1, none⟩ = some (.int .i64 op) ∧ w'.cell? ⟨w2.heap.size, 2, none⟩ = some (.slice none 0 0) ∧ (Instr.lookup 172 (.map (some M)) (.int .i64 op) false).run Tryd.prog w' = .ok (.int .i64 (rulOf t op)) w')) (by kernel_rfl) ?hc (fun hHeld => ?bc)
  case hc => exact HS0.out
  refine take_run (i := 0) (v := ?vc0) rfl (by kernel_rfl) (by kernel_rfl) (by kernel_rfl) (fun _ _ _ h => h) (by rfl) ?yc0 (by assumption) ?rc0
  case yc0 => (intro w hSw; (try dsimp only at hSw); go_simp; try with_reducible rfl)
  try simp only [Act.put, List.setIfInBounds_toArray, List.set_cons_zero, List.set_cons_succ]
  refine take_run (i := 1) (v := ?vc1) rfl (by kernel_rfl) (by kernel_rfl) (by kernel_rfl) (fun _ _ _ h => h) (by rfl) ?yc1 (by assumption) ?rc1
  case yc1 => (intro w hSw; (try dsimp only at hSw); go_simp; try with_reducible rfl)
  try simp only [Act.put, List.setIfInBounds_toArray, List.set_cons_zero, List.set_cons_succ]
  refine take_run (i := 2) (v := ?vc2) rfl (by kernel_rfl) (by kernel_rfl) (by kernel_rfl) (fun _ _ _ h => h) (by rfl) ?yc2 (by assumption) ?rc2
  case yc2 => (intro w hSw; (try dsimp only at hSw); go_simp; try with_reducible rfl)
  try simp only [Act.put, List.setIfInBounds_toArray, List.set_cons_zero, List.set_cons_succ]
  refine take_run (i := 3) (v := ?vc3) rfl (by kernel_rfl) (by kernel_rfl) (by kernel_rfl) (fun _ _ _ h => h) (by rfl) ?yc3 (by assumption) ?rc3
  case yc3 => (intro w hSw; (try dsimp only at hSw); go_simp; try with_reducible rfl)
  try simp only [Act.put, List.setIfInBounds_toArray, List.set_cons_zero, List.set_cons_succ]
  refine take_run (i := 4) (v := ?vc4) rfl (by kernel_rfl) (by kernel_rfl) (by kernel_rfl) (fun _ _ _ h => h) (by rfl) ?yc4 (by assumption) ?rc4
  case yc4 => (intro w hSw; (try dsimp only at hSw); go_simp; try with_reducible rfl)
  try simp only [Act.put, List.setIfInBounds_toArray, List.set_cons_zero, List.set_cons_succ]
  refine take_run (i := 5) (v := .int .i64 (rulOf t op)) rfl (by kernel_rfl) (by kernel_rfl) (by kernel_rfl) (fun _ _ _ h => h) (by rfl) ?yc5 (by assumption) ?rc5
  case yc5 => (intro w hSw; (try dsimp only at hSw); try go_simp; first | done | omega | (simp [hSw]; done) | trace_state)
  try simp only [Act.put, List.setIfInBounds_toArray, List.set_cons_zero, List.set_cons_succ]
  refine take_run (i := 6) (v := ?vc6) rfl (by kernel_rfl) (by kernel_rfl) (by kernel_rfl) (fun _ _ _ h => h) (by rfl) ?yc6 (by assumption) ?rc6
  case yc6 => (intro w hSw; (try dsimp only at hSw); go_simp; try with_reducible rfl)
  try simp only [Act.put, List.setIfInBounds_toArray, List.set_cons_zero, List.set_cons_succ]
  refine take_run (i := 7) (v := ?vc7) rfl (by kernel_rfl) (by kernel_rfl) (by kernel_rfl) (fun _ _ _ h => h) (by rfl) ?yc7 (by assumption) ?rc7
  case yc7 => (intro w hSw; (try dsimp only at hSw); go_simp; try with_reducible rfl)
  try simp only [Act.put, List.setIfInBounds_toArray, List.set_cons_zero, List.set_cons_succ]
  refine take_run (i := 8) (v := ?vc8) rfl (by kernel_rfl) (by kernel_rfl) (by kernel_rfl) (fun _ _ _ h => h) (by rfl) ?yc8 (by assumption) ?rc8
  case yc8 => (intro w hSw; (try dsimp only at hSw); go_simp; try with_reducible rfl)
  try simp only [Act.put, List.setIfInBounds_toArray, List.set_cons_zero, List.set_cons_succ]
  refine take_call (i := 9) rfl (by kernel_rfl) (by rfl) (fun Kq hK => ?_)
  go_simp
  go_at_call 115
  refine (HP.out _ (H3.out.below (below_drew _))).mono ?_
  rintro e w6 ⟨⟨A6, c6, rfl, i1, i2, i3, i4, hE6⟩, hC6, hk6⟩
  have hR6 := HR3.out.kept hk6.undrew (by omega)
  have hG6 := HG3.out.kept hk6.undrew (by omega)
  have HS : Hid (∀ w', Kept (fun b => b = w.heap.size) w6 w' → (fun w' => w'.cell? ⟨K, 7, none⟩ = some (.map (some M)) ∧ w'.cell? ⟨w2.heap.size, 0, none⟩ = some (.int .i64 (-1)) ∧ w'.cell? ⟨w2.heap.size, 1, none⟩ = some (.int .i64 op) ∧ w'.cell? ⟨w2.heap.size, 2, none⟩ = some (.slice none 0 0) ∧ (Instr.lookup 172 (.map (some M)) (.int .i64 op) false).run Tryd.prog w' = .ok (.int .i64 (rulOf t op)) w') w') := Lib.hid (fun w' kR => by
    have hC' := HH.out.kept F.out ((HK3.out.trans hk6.undrew).later kR (fun b (hb : b = w.heap.size) => .inr (by omega))) hC6.le (hC6.blk.kept kR (by omega))
    have hG' := hG6.kept kR (by omega)
    exact ⟨hC'.blk.cell 7, hG'.cell 0, hG'.cell 1, hG'.cell 2, hC'.look F.out HOm.out HO64.out⟩)
  have HE6 := Lib.hid (And.intro i1 (And.intro i2 (And.intro i3 (And.intro i4 hE6))))
  have HK6 := Lib.hid (And.intro hC6 (And.intro hk6.undrew hR6))
  have s0 := hR6.cell 0
  have s1 := hR6.cell 1
  have s2 := hR6.cell 2
  have r0 := hR6.frozen 0
  have r1 := hR6.frozen 1
  have r2 := hR6.frozen 2
  have zzR : w.heap.size < w6.heap.size := hR6.lt
  clear i1 i2 i3 i4 hE6 hC6 hk6 hR6 hG6
  simp at s0 s1 s2
  refine hK.out _ _ ?hc9 (fun hHeld => ?rc9)
  case hc9 => (first | exact HS.out _ (Kept.refl _ _) | exact HS.out _ ((Kept.refl _ _).alloc _) | exact HS.out _ (((((Kept.refl (fun b => b = w.heap.size) _).setCell (p := ⟨w.heap.size, 0, none⟩) (.inl rfl) _).setCell (p := ⟨w.heap.size, 1, none⟩) (.inl rfl) _).setCell (p := ⟨w.heap.size, 2, none⟩) (.inl rfl) _).alloc _))
  clear hK Kq
  try simp only [Act.put, List.setIfInBounds_toArray, List.set_cons_zero, List.set_cons_succ]
  refine take_call (i := 10) rfl (by kernel_rfl) (by rfl) (fun Kq hK => ?_)
  go_simp
  refine hK.out _ _ ?hc10 (fun hHeld => ?rc10)
  case hc10 => (first | exact HS.out _ (Kept.refl _ _) | exact HS.out _ ((Kept.refl _ _).alloc _) | exact HS.out _ (((((Kept.refl (fun b => b = w.heap.size) _).setCell (p := ⟨w.heap.size, 0, none⟩) (.inl rfl) _).setCell (p := ⟨w.heap.size, 1, none⟩) (.inl rfl) _).setCell (p := ⟨w.heap.size, 2, none⟩) (.inl rfl) _).alloc _))
  clear hK Kq
  try simp only [Act.put, List.setIfInBounds_toArray, List.set_cons_zero, List.set_cons_succ]
  refine take_call (i := 11) rfl (by kernel_rfl) (by rfl) (fun Kq hK => ?_)
  go_simp
  refine hK.out _ _ ?hc11 (fun hHeld => ?rc11)
  case hc11 => (first | exact HS.out _ (Kept.refl _ _) | exact HS.out _ ((Kept.refl _ _).alloc _) | exact HS.out _ (((((Kept.refl (fun b => b = w.heap.size) _).setCell (p := ⟨w.heap.size, 0, none⟩) (.inl rfl) _).setCell (p := ⟨w.heap.size, 1, none⟩) (.inl rfl) _).setCell (p := ⟨w.heap.size, 2, none⟩) (.inl rfl) _).alloc _))
  clear hK Kq
  try simp only [Act.put, List.setIfInBounds_toArray, List.set_cons_zero, List.set_cons_succ]
  refine take_call (i := 12) rfl (by kernel_rfl) (by rfl) (fun Kq hK => ?_)
  go_simp
  refine hK.out _ _ ?hc12 (fun hHeld => ?rc12)
  case hc12 => (first | exact HS.out _ (Kept.refl _ _) | exact HS.out _ ((Kept.refl _ _).alloc _) | exact HS.out _ (((((Kept.refl (fun b => b = w.heap.size) _).setCell (p := ⟨w.heap.size, 0, none⟩) (.inl rfl) _).setCell (p := ⟨w.heap.size, 1, none⟩) (.inl rfl) _).setCell (p := ⟨w.heap.size, 2, none⟩) (.inl rfl) _).alloc _))
  clear hK Kq
  try simp only [Act.put, List.setIfInBounds_toArray, List.set_cons_zero, List.set_cons_succ]
  refine wpAnyH_done (by kernel_rfl) ?_ _
  refine NoPanic.normal ?_
  go_wp2_with fail
  generalize hwF : World.alloc _ _ = wF
  obtain ⟨⟨⟨u0, u1, u2⟩, hC, hKw⟩, hN, hz, hKF⟩ := node_fin HH.out F.out (HK3.out.trans HK6.out.2.1) HK6.out.1.blk HK6.out.1.le HK6.out.2.2 (Nat.le_refl _) hwF.symm
  clear hwF
  have hEF := HE6.out.2.2.2.2.kept hKF (fun b hb (e : b = w.heap.size) => by have := hb.1; simp at this; omega)
  refine bodyPost_ret (v := .agg #[.int .i64 (rulOf t op), .int .i64 0, .slice (some ⟨w6.heap.size, 0, none⟩) 2 2]) (by simp [results, Tryd.results115, go_sem, u0, u1, u2]) rfl ⟨⟨_, 2, rfl, HRi.out, i64_0, Nat.le_refl _, by omega, ?_⟩, hC, hKw⟩
  exact els_pair (cs := [_, _, _]) (ds := [_, _, _]) hN rfl (rd_leaf HO64.out) (rd_node HE6.out.1 HE6.out.2.1 HE6.out.2.2.1 HE6.out.2.2.2.1 (hEF.keep (fun _ _ _ => rfl) (fun b hb => ⟨by have := hb.1; simp at this; omega, by have := hb.2; omega⟩))) ⟨by omega, by omega⟩

set_option maxRecDepth 100000 in
set_option maxHeartbeats 2000000 in
/-- A prefix operator, behind which the word is rejected. -/
theorem parse_preRej {t : Table} {l : List Int} {K : Nat} {A : Option Addr} {c : Nat} {B : Option Addr} {d M mn : Nat} {D : DataW Unit} {S St : Nat → Prop} {p : Nat} {w : World} (P : Nat → Nat → Res → Prop) (h : ClW t l K A c B d M mn D S St p w) (f : ClF t l K M D S St) {k : Nat} (hP : ∀ (p1 : Nat) (r1 : Res) (w1 : World), P k p1 r1 → ClW t l K A c B d M mn D S St p1 w1 → Calls Tryd.prog 115 #[.pointer (some ⟨K, 0, none⟩), .int .i64 k] w1 (RetP (ClW t l K A c B d M mn D S St) K r1 w1)) {lv : Level} (hl : t.levels[k]? = some lv) (h3 : lv.kind = 3) {op : Int} (ho : l[p]? = some op) (hm : op ∈ lv.ops) (q : Nat) (hr : P k (p + 1) (.rej q)) :
    Calls Tryd.prog 115 #[.pointer (some ⟨K, 0, none⟩), .int .i64 k] w (RetP (ClW t l K A c B d M mn D S St) K (.rej q) w) := by
  have HO64 := Lib.hid (els_i64 h.word ho)
  have HOm := Lib.hid (show op ∈ opsL t from List.mem_flatten.2 ⟨lv.ops, List.mem_map.2 ⟨lv, List.mem_of_getElem? hl, rfl⟩, hm⟩)
  have HRi := Lib.hid (rulOf_i64 f.opsn op)
  have HO := Lib.hid ho
  obtain ⟨w0, hw0⟩ : ∃ w0 : World, w0 = w.alloc (.cells #[.int .i64 0, .int .i64 0, .slice none 0 0] 27) := ⟨_, rfl⟩
  have hb0 : Below w.heap.size w w0 := by rw [hw0]; exact (Below.refl _ _).alloc (Nat.le_refl _) _
  have hR0 : Blk' w0 w.heap.size 27 #[.int .i64 0, .int .i64 0, .slice none 0 0] := by rw [hw0]; exact Blk'.new w _ _
  have h0 := h.below hb0
  have HB0 := Lib.hid hb0
  have HR0 := Lib.hid hR0
  have H0 := Lib.hid h0
  have F := Lib.hid f
  have HH := Lib.hid h
  have zK : K < w0.heap.size := h0.blk.lt
  have zR : w.heap.size < w0.heap.size := hR0.lt
  have hsm := f.small
  have hle := h.le
  have zKR : K < w.heap.size := h.blk.lt
  have hll := f.lev
  have hk9 : k < t.levels.length := (List.getElem?_eq_some_iff.1 hl).1
  obtain ⟨bl, ol, rfl, lc⟩ := h0.lev hl
  have hk0 : (0 : Int) ≤ (k : Int) := by omega
  have hk99 : (k : Int) < (t.levels.length : Int) := by omega
  have hkL : ¬ (k : Int) = (t.levels.length : Int) := by omega
  have hkb : ((k : Int) == (t.levels.length : Int)) = false := by simp; omega
  have k4 : w0.cell? ⟨K, 4, none⟩ = some (.slice (some ⟨bl, ol, none⟩) t.levels.length c) := h0.blk.cell 4
  have hwr : IntKind.i64.wrap ((k : Int) + 1) = (k : Int) + 1 := IntWalk.i64_in _ (by omega)
  rw [h3] at lc
  have HC := Lib.hid (op_yes h0 f hl ho hm)
  have HP := Lib.hid (fun w1 h1 => hP (p + 1) _ w1 hr h1)
  have hp9 : p < l.length := (List.getElem?_eq_some_iff.1 ho).1
  have HW := Lib.hid hw0
  have HK0 := Lib.hid (Kept.of_below (fun b => b = K) HB0.out)
  clear hb0 hR0 h0 h f hw0 hsm hle hP hr hl hm h3 ho
  go_enter Tryd.func115, Tryd.ntmps115
  go_upto_region 1 with (fail)
  rw [← HW.out]
  go_wp2_with fail
  refine HC.out.mono ?_
  rintro e w1 ⟨rfl, hb1⟩
  have HH1 := Lib.hid (H0.out.below hb1)
  have HK1 := Lib.hid (HK0.out.below hb1)
  have HR1 := Lib.hid (HR0.out.below hb1 HR0.out.lt)
  clear hb1
  go_wp2_with fail
  refine (take_hit K t.terms t.atom t.opn t.cls op _ _ l _ d p S w1 F.out.small HH1.out.blk HO.out HH1.out.word).mono ?_
  rintro e w2 ⟨rfl, hK2, hk2⟩
  obtain ⟨w3, hw3⟩ : ∃ w3 : World, w3 = w2.alloc (.cells #[.int .i64 (-1), .int .i64 op, .slice none 0 0] 27) := ⟨_, rfl⟩
  have hb3 : Below w2.heap.size w2 w3 := by rw [hw3]; exact (Below.refl _ _).alloc (Nat.le_refl _) _
  have hH3 := ((HH1.out.kept F.out hk2 (show p + 1 ≤ l.length by omega) hK2).below hb3)
  have hG3 : Blk' w3 w2.heap.size 27 #[.int .i64 (-1), .int .i64 op, .slice none 0 0] := by rw [hw3]; exact Blk'.new w2 _ _
  have HK3 := Lib.hid ((HK1.out.trans hk2).below hb3)
  have hZ3 : w.heap.size < w2.heap.size := by have := HR1.out.lt; have := hk2.size; omega
  have HR3 := Lib.hid ((HR1.out.kept hk2 (by omega)).below hb3 hZ3)
  have HW3 := Lib.hid hw3
  have H3 := Lib.hid hH3
  have HG3 := Lib.hid hG3
  have HS0 : Hid ((fun w' => w'.cell? ⟨K, 7, none⟩ = some (.map (some M)) ∧ w'.cell? ⟨w2.heap.size, 0, none⟩ = some (.int .i64 (-1)) ∧ w'.cell? ⟨w2.heap.size, 1, none⟩ = some (.int .i64 op) ∧ w'.cell? ⟨w2.heap.size, 2, none⟩ = some (.slice none 0 0) ∧ (Instr.lookup 172 (.map (some M)) (.int .i64 op) false).run Tryd.prog w' = .ok (.int .i64 (rulOf t op)) w') w3.drew) := Lib.hid (by
    have hd := hH3.below (below_drew _)
    exact ⟨hd.blk.cell 7, hG3.cell 0, hG3.cell 1, hG3.cell 2, hd.look F.out HOm.out HO64.out⟩)
  have z3 : w2.heap.size < w3.heap.size := hG3.lt
  clear hK2 hk2 hb3 hw3 hH3 hG3
  go_wp2_with fail
  rw [← HW3.out]
  refine wp_region_held_drew (S := (fun w' => w'.cell? ⟨K, 7, none⟩ = some (.map (some M)) ∧ w'.cell? ⟨w2.heap.size, 0, none⟩ = some (.int .i64 (-1)) ∧ w'.cell? ⟨w2.heap.size, 1, none⟩ = some (.int .i64 op) ∧ w'.cell? ⟨w2.heap.size, 2, none⟩ = some (.slice none 0 0) ∧ (Instr.lookup 172 (.map (some M)) (.int .i64 op) false).run Tryd.prog w' = .ok (.int .i64 (rulOf t op)) w')) (by kernel_rfl) ?hc (fun hHeld => ?bc)
  case hc => exact HS0.out
  refine take_run (i := 0) (v := ?vc0) rfl (by kernel_rfl) (by kernel_rfl) (by kernel_rfl) (fun _ _ _ h => h) (by rfl) ?yc0 (by assumption) ?rc0
  case yc0 => (intro w hSw; (try dsimp only at hSw); go_simp; try with_reducible rfl)
  try simp only [Act.put, List.setIfInBounds_toArray, List.set_cons_zero, List.set_cons_succ]
  refine take_run (i := 1) (v := ?vc1) rfl (by kernel_rfl) (by kernel_rfl) (by kernel_rfl) (fun _ _ _ h => h) (by rfl) ?yc1 (by assumption) ?rc1
  case yc1 => (intro w hSw; (try dsimp only at hSw); go_simp; try with_reducible rfl)
  try simp only [Act.put, List.setIfInBounds_toArray, List.set_cons_zero, List.set_cons_succ]
  refine take_run (i := 2) (v := ?vc2) rfl (by kernel_rfl) (by kernel_rfl) (by kernel_rfl) (fun _ _ _ h => h) (by rfl) ?yc2 (by assumption) ?rc2
  case yc2 => (intro w hSw; (try dsimp only at hSw); go_simp; try with_reducible rfl)
  try simp only [Act.put, List.setIfInBounds_toArray, List.set_cons_zero, List.set_cons_succ]
  refine take_run (i := 3) (v := ?vc3) rfl (by kernel_rfl) (by kernel_rfl) (by kernel_rfl) (fun _ _ _ h => h) (by rfl) ?yc3 (by assumption) ?rc3
  case yc3 => (intro w hSw; (try dsimp only at hSw); go_simp; try with_reducible rfl)
  try simp only [Act.put, List.setIfInBounds_toArray, List.set_cons_zero, List.set_cons_succ]
  refine take_run (i := 4) (v := ?vc4) rfl (by kernel_rfl) (by kernel_rfl) (by kernel_rfl) (fun _ _ _ h => h) (by rfl) ?yc4 (by assumption) ?rc4
  case yc4 => (intro w hSw; (try dsimp only at hSw); go_simp; try with_reducible rfl)
  try simp only [Act.put, List.setIfInBounds_toArray, List.set_cons_zero, List.set_cons_succ]
  refine take_run (i := 5) (v := .int .i64 (rulOf t op)) rfl (by kernel_rfl) (by kernel_rfl) (by kernel_rfl) (fun _ _ _ h => h) (by rfl) ?yc5 (by assumption) ?rc5
  case yc5 => (intro w hSw; (try dsimp only at hSw); try go_simp; first | done | omega | (simp [hSw]; done) | trace_state)
  try simp only [Act.put, List.setIfInBounds_toArray, List.set_cons_zero, List.set_cons_succ]
  refine take_run (i := 6) (v := ?vc6) rfl (by kernel_rfl) (by kernel_rfl) (by kernel_rfl) (fun _ _ _ h => h) (by rfl) ?yc6 (by assumption) ?rc6
  case yc6 => (intro w hSw; (try dsimp only at hSw); go_simp; try with_reducible rfl)
  try simp only [Act.put, List.setIfInBounds_toArray, List.set_cons_zero, List.set_cons_succ]
  refine take_run (i := 7) (v := ?vc7) rfl (by kernel_rfl) (by kernel_rfl) (by kernel_rfl) (fun _ _ _ h => h) (by rfl) ?yc7 (by assumption) ?rc7
  case yc7 => (intro w hSw; (try dsimp only at hSw); go_simp; try with_reducible rfl)
  try simp only [Act.put, List.setIfInBounds_toArray, List.set_cons_zero, List.set_cons_succ]
  refine take_run (i := 8) (v := ?vc8) rfl (by kernel_rfl) (by kernel_rfl) (by kernel_rfl) (fun _ _ _ h => h) (by rfl) ?yc8 (by assumption) ?rc8
  case yc8 => (intro w hSw; (try dsimp only at hSw); go_simp; try with_reducible rfl)
  try simp only [Act.put, List.setIfInBounds_toArray, List.set_cons_zero, List.set_cons_succ]
  refine take_call (i := 9) rfl (by kernel_rfl) (by rfl) (fun Kq hK => ?_)
  go_simp
  go_at_call 115
  refine (HP.out _ (H3.out.below (below_drew _))).mono ?_
  rintro e w6 ⟨rfl, hC6, hk6⟩
  exact ⟨rfl, rfl, hC6, HK3.out.trans hk6.undrew⟩
end Go.Proofs.YtjdojogjogenkaaDoor
