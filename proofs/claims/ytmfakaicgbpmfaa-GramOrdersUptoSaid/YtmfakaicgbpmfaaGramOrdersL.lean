/- The walk of the law GramOrders, continued: the law's own body. -/
import Derived.Test.YtmfakaicgbpmfaaGramOrdersW
import Derived.BigRegion
import Derived.Deep.DeepCutAuto
namespace Go.Proofs.Ytmfakaicgbpmfaa
open Go.RowKit
set_option linter.unusedVariables false

/-- The four boxed parameters, at a later world. -/
def Boxes4 (w : World) (a0 a1 b0 b1 p0 p1 q0 q1 : Value) (W : World) : Prop :=
  Below w.heap.size w W ∧ W.cell? ⟨w.heap.size, 0, none⟩ = some a0 ∧ W.cell? ⟨w.heap.size, 1, none⟩ = some a1 ∧ W.cell? ⟨w.heap.size + 1, 0, none⟩ = some b0 ∧ W.cell? ⟨w.heap.size + 1, 1, none⟩ = some b1 ∧
    W.cell? ⟨w.heap.size + 1 + 1, 0, none⟩ = some p0 ∧ W.cell? ⟨w.heap.size + 1 + 1, 1, none⟩ = some p1 ∧ W.cell? ⟨w.heap.size + 1 + 1 + 1, 0, none⟩ = some q0 ∧ W.cell? ⟨w.heap.size + 1 + 1 + 1, 1, none⟩ = some q1 ∧ w.heap.size + 4 ≤ W.heap.size
theorem Boxes4.first (w : World) (a0 a1 b0 b1 p0 p1 q0 q1 : Value) (ta tb tp tq : TypeId) :
    Boxes4 w a0 a1 b0 b1 p0 p1 q0 q1 ((((w.alloc (.cells #[a0, a1] ta)).alloc (.cells #[b0, b1] tb)).alloc (.cells #[p0, p1] tp)).alloc (.cells #[q0, q1] tq)) := by
  have hc : ∀ (W : World) (x0 x1 : Value) (t : TypeId) (n : Nat), n = W.heap.size → (W.alloc (.cells #[x0, x1] t)).cell? ⟨n, 0, none⟩ = some x0 ∧ (W.alloc (.cells #[x0, x1] t)).cell? ⟨n, 1, none⟩ = some x1 :=
    fun W x0 x1 t n hn => by subst hn; exact ⟨World.cell?_alloc_new _ _ _ _, World.cell?_alloc_new _ _ _ _⟩
  have hl : ∀ (W : World) (o : Obj) (n i : Nat), n < W.heap.size → (W.alloc o).cell? ⟨n, i, none⟩ = W.cell? ⟨n, i, none⟩ := fun W o n i h => World.cell?_alloc_lt W o _ h
  refine ⟨((((Below.refl _ _).alloc (Nat.le_refl _) _).alloc (by simp) _).alloc (by simp; omega) _).alloc (by simp; omega) _, ?_, ?_, ?_, ?_, ?_, ?_, (hc _ _ _ _ _ (by simp)).1, (hc _ _ _ _ _ (by simp)).2, by simp⟩
  · rw [hl _ _ _ _ (by simp <;> omega), hl _ _ _ _ (by simp <;> omega), hl _ _ _ _ (by simp)]; exact (hc w _ _ _ _ rfl).1
  · rw [hl _ _ _ _ (by simp <;> omega), hl _ _ _ _ (by simp <;> omega), hl _ _ _ _ (by simp)]; exact (hc w _ _ _ _ rfl).2
  · rw [hl _ _ _ _ (by simp <;> omega), hl _ _ _ _ (by simp)]; exact (hc _ _ _ _ _ (by simp)).1
  · rw [hl _ _ _ _ (by simp <;> omega), hl _ _ _ _ (by simp)]; exact (hc _ _ _ _ _ (by simp)).2
  · rw [hl _ _ _ _ (by simp)]; exact (hc _ _ _ _ _ (by simp)).1
  · rw [hl _ _ _ _ (by simp)]; exact (hc _ _ _ _ _ (by simp)).2
theorem Boxes4.next {w W W' : World} {a0 a1 b0 b1 p0 p1 q0 q1 : Value} (h : Boxes4 w a0 a1 b0 b1 p0 p1 q0 q1 W) (hb : Below W.heap.size W W') : Boxes4 w a0 a1 b0 b1 p0 p1 q0 q1 W' := by
  obtain ⟨h0, h1, h2, h3, h4, h5, h6, h7, h8, h9⟩ := h
  obtain ⟨hc, _⟩ := bcell hb
  exact ⟨bthen h0 hb h0.size, (hc _ _ (by omega)).trans h1, (hc _ _ (by omega)).trans h2, (hc _ _ (by omega)).trans h3, (hc _ _ (by omega)).trans h4, (hc _ _ (by omega)).trans h5, (hc _ _ (by omega)).trans h6, (hc _ _ (by omega)).trans h7, (hc _ _ (by omega)).trans h8, Nat.le_trans h9 hb.size⟩

/-- A boxed rule of one symbol. -/
def One (W : World) (v : Value) (s : Sym) : Prop :=
  ∃ g k, v = .pointer (some ⟨g, 0, none⟩) ∧ g < W.heap.size ∧ k < W.heap.size ∧ W.cell? ⟨g, 0, none⟩ = some (.int .i64 0) ∧ W.cell? ⟨g, 1, none⟩ = some (.slice (some ⟨k, 0, none⟩) 1 1) ∧ W.cell? ⟨k, 0, none⟩ = some (.bool s.term) ∧ W.cell? ⟨k, 1, none⟩ = some (.int .i64 s.n)
theorem One.next {W W' : World} {v : Value} {s : Sym} (h : One W v s) (hb : Below W.heap.size W W') : One W' v s := by
  obtain ⟨g, k, h0, h1, h2, h3, h4, h5, h6⟩ := h
  obtain ⟨hc, _⟩ := bcell hb
  exact ⟨g, k, h0, Nat.lt_of_lt_of_le h1 hb.size, Nat.lt_of_lt_of_le h2 hb.size, (hc _ _ h1).trans h3, (hc _ _ h1).trans h4, (hc _ _ h2).trans h5, (hc _ _ h2).trans h6⟩
theorem One.els {W : World} {k : Nat} {s : Sym} (hs : I64 s.n) (h5 : W.cell? ⟨k, 0, none⟩ = some (.bool s.term)) (h6 : W.cell? ⟨k, 1, none⟩ = some (.int .i64 s.n)) : Els W (fun _ => True) [s] (some ⟨k, 0, none⟩) :=
  fun _ => ⟨k, 0, rfl, trivial, fun i x hi => by
    match i, hi with
    | 0, hi => simp at hi; subst hi; exact ⟨[.bool s.term, .int .i64 s.n], ⟨rfl, hs⟩, fun j u hu => by
        match j, hu with
        | 0, hu => simp at hu; subst hu; simpa using h5
        | 1, hu => simp at hu; subst hu; simpa using h6⟩⟩

theorem two_slices {W : World} {S : Nat → Prop} {xs ys : List Sym} {A A' : Option Addr} {c c' g : Nat} (h1 : xs.length ≤ c) (h2 : c ≤ 9223372036854775807) (h1' : ys.length ≤ c') (h2' : c' ≤ 9223372036854775807) (hg : S g)
    (hA : Els W S xs A) (hA' : Els W S ys A') (h0 : W.cell? ⟨g, 0, none⟩ = some (.slice A xs.length c)) (h3 : W.cell? ⟨g, 1, none⟩ = some (.slice A' ys.length c')) : Els W S [xs, ys] (some ⟨g, 0, none⟩) :=
  fun _ => ⟨g, 0, rfl, hg, fun i z hi => by
    match i, hi with
    | 0, hi => simp at hi; subst hi; exact ⟨[.slice A xs.length c], ⟨A, c, rfl, h1, by simpa [maxLen] using h2, hA⟩, fun j u hu => by match j, hu with | 0, hu => simp at hu; subst hu; exact h0⟩
    | 1, hi => simp at hi; subst hi; exact ⟨[.slice A' ys.length c'], ⟨A', c', rfl, h1', by simpa [maxLen] using h2', hA'⟩, fun j u hu => by match j, hu with | 0, hu => simp at hu; subst hu; exact h3⟩⟩
def LoopR (l : List Sym) (w2 : World) (i : Value) (wr : World) : Prop := ∃ k : Nat, k ≤ l.length ∧ i = .int .i64 k ∧ Below w2.heap.size w2 wr ∧ Small (l.take k)

theorem one_le63 : (1 : Nat) ≤ 9223372036854775807 := by omega
/-- What the test on the symbols' numbers says. -/
def InRange (z z' : Int) (v : Value) : Prop := ∃ b, v = .bool b ∧ (b = false ↔ 0 ≤ z ∧ 0 ≤ z' ∧ z ≤ 1000000 ∧ z' ≤ 1000000)

set_option maxRecDepth 100000 in
set_option maxHeartbeats 6000000 in
theorem gramOrders_any (a b : Sym) (l l' : Int) (A A' : Option Addr) (c c' : Nat) (xs ys : List Sym) (S : Nat → Prop) (w : World) (ha : I64 a.n) (hb : I64 b.n)
    (hl : (xs.length + ys.length) * 16 ≤ 140737488355328) (hc1 : xs.length ≤ c) (hc2 : c ≤ 9223372036854775807) (hc1' : ys.length ≤ c') (hc2' : c' ≤ 9223372036854775807) (hA : Els w S xs A) (hA' : Els w S ys A') (hS : ∀ b, S b → b < w.heap.size) :
    Calls Try.prog 3 #[.agg #[.bool a.term, .int .i64 a.n], .agg #[.bool b.term, .int .i64 b.n], .agg #[.int .i64 l, .slice A xs.length c], .agg #[.int .i64 l', .slice A' ys.length c']] w
      fun e w' => e = .returned (.bool true) ∧ Below w.heap.size w w' := by
  obtain ⟨t, z⟩ := a
  obtain ⟨t', z'⟩ := b
  dsimp only at ha hb ⊢
  have HL := Lib.hid hl
  clear hl
  go_enter Try.func3, Try.ntmps3
  go_wp2_with fail
  have HX := Boxes4.first w (.bool t) (.int .i64 z) (.bool t') (.int .i64 z') (.int .i64 l) (.slice A xs.length c) (.int .i64 l') (.slice A' ys.length c') 23 23 26 26
  refine (order_any _ _ _ _ _).mono ?_
  rintro e w1 ⟨rfl, hb1⟩
  have hv : symCmp ⟨true, 5⟩ ⟨false, 0⟩ = -1 := rfl
  rw [hv]
  clear hv
  have HB1 := Lib.hid (HX.next hb1)
  clear hb1 HX
  go_upto_region 3 with fail
  go_cut [9, 10] (fun s9 s10 wx => Boxes4 w (.bool t) (.int .i64 z) (.bool t') (.int .i64 z') (.int .i64 l) (.slice A xs.length c) (.int .i64 l') (.slice A' ys.length c') wx ∧ One wx s9 ⟨t, z⟩ ∧ One wx s10 ⟨t', z'⟩)
  case first =>
    obtain ⟨_, q0, q1, q2, q3, q4, q5, q6, q7, hz⟩ := HB1.out
    have z0 : w.heap.size < w1.heap.size := by omega
    have z1 : w.heap.size + 1 < w1.heap.size := by omega
    have z2 : w.heap.size + 1 < w1.heap.size + 1 := by omega
    have z3 : w.heap.size + 1 < w1.heap.size + 1 + 1 := by omega
    have z4 : w.heap.size < w1.heap.size + 1 := by omega
    have z5 : w.heap.size < w1.heap.size + 1 + 1 := by omega
    go_region
    all_goals
      go_wp2_with fail
      go_meet
    all_goals
      refine ⟨HB1.out.next ?_, ?_, ?_⟩
      · exact (((((Below.refl _ _).alloc (Nat.le_refl _) _).alloc (by simp) _).alloc (by simp; omega) _).alloc (by simp; omega) _).drew
      · first
        | (refine ⟨_, w1.heap.size, rfl, ?_, ?_, ?_, ?_, ?_, ?_⟩ <;> first | (simp; done) | (simp; omega) | (go_simp; done))
        | (refine ⟨_, w1.heap.size + 1, rfl, ?_, ?_, ?_, ?_, ?_, ?_⟩ <;> first | (simp; done) | (simp; omega) | (go_simp; done))
        | (refine ⟨_, w1.heap.size + 1 + 1, rfl, ?_, ?_, ?_, ?_, ?_, ?_⟩ <;> first | (simp; done) | (simp; omega) | (go_simp; done))
        | (refine ⟨_, w1.heap.size + 1 + 1 + 1, rfl, ?_, ?_, ?_, ?_, ?_, ?_⟩ <;> first | (simp; done) | (simp; omega) | (go_simp; done))
      · first
        | (refine ⟨_, w1.heap.size, rfl, ?_, ?_, ?_, ?_, ?_, ?_⟩ <;> first | (simp; done) | (simp; omega) | (go_simp; done))
        | (refine ⟨_, w1.heap.size + 1, rfl, ?_, ?_, ?_, ?_, ?_, ?_⟩ <;> first | (simp; done) | (simp; omega) | (go_simp; done))
        | (refine ⟨_, w1.heap.size + 1 + 1, rfl, ?_, ?_, ?_, ?_, ?_, ?_⟩ <;> first | (simp; done) | (simp; omega) | (go_simp; done))
        | (refine ⟨_, w1.heap.size + 1 + 1 + 1, rfl, ?_, ?_, ?_, ?_, ?_, ?_⟩ <;> first | (simp; done) | (simp; omega) | (go_simp; done))
  case rest =>
    clear HB1
    obtain ⟨hx, h9, h10⟩ := hcut
    have HX := Lib.hid hx
    have H9 := Lib.hid h9
    have H10 := Lib.hid h10
    obtain ⟨_, q0, q1, q2, q3, q4, q5, q6, q7, hz⟩ := hx
    obtain ⟨g9, k9, rfl, _⟩ := h9
    obtain ⟨g10, k10, rfl, _⟩ := h10
    have hbw : Below w.heap.size w wc := HX.out.1
    have HBw := Lib.hid hbw
    clear hbw
    go_upto_region 5 with fail
    go_cut [37] (fun s37 wx => wx = wc ∧ InRange z z' s37)
    case first =>
      by_cases hzz : z < z'
      all_goals
        go_wp2_with fail
        all_goals
          go_meet
          refine ⟨rfl, _, rfl, ?_⟩
          simp
          omega
    case rest =>
      obtain ⟨hw, b37, rfl, hr⟩ := hcut
      subst hw
      cases b37
      · replace hr := hr.1 rfl
        have Hr := Lib.hid hr
        clear hr
        go_wp2_with fail
        have hE0 : ∀ o, Els (wc.alloc o) (fun b => b < wc.heap.size + 1) xs A := fun o => (hA.below (HBw.out.alloc HBw.out.size o)).keep (fun _ _ _ => rfl) (fun b hb => by have := hS b hb; omega)
        have hE0' : ∀ o, Els (wc.alloc o) (fun b => b < wc.heap.size + 1) ys A' := fun o => (hA'.below (HBw.out.alloc HBw.out.size o)).keep (fun _ _ _ => rfl) (fun b hb => by have := hS b hb; omega)
        refine (concatSym_any _ _ [xs, ys] (fun b => b < wc.heap.size + 1) _ (by simp) (two_slices hc1 hc2 hc1' hc2' (by simp) (hE0 _) (hE0' _) (World.cell?_alloc_new _ _ _ _) (World.cell?_alloc_new _ _ _ _)) (fun b hb => by simpa using hb) (by simpa using HL.out)).mono ?_
        rintro e w2 ⟨v, rfl, hown, hb2⟩
        have hfl : [xs, ys].flatten = xs ++ ys := by simp
        rw [hfl] at hown
        generalize hzs : xs ++ ys = zs at hown
        have Hzs := Lib.hid hzs
        clear hzs
        obtain ⟨Av, cv, rfl, hv1, hv2, hE⟩ := hown.vl.slice
        have HE := Lib.hid hE
        have hbc := (Below.refl wc.heap.size wc).alloc (Nat.le_refl _) (Obj.cells #[Value.slice A xs.length c, Value.slice A' ys.length c'] 24)
        have hb2' := bthen hbc hb2 (by simp)
        have HX2 := Lib.hid (HX.out.next hb2')
        have H92 := Lib.hid (H9.out.next hb2')
        have H102 := Lib.hid (H10.out.next hb2')
        have hlen : zs.length ≤ 9223372036854775807 := by omega
        clear hE0 hE0' hfl hown hb2 hbc hb2' hE HX H9 H10 HBw q0 q1 q2 q3 q4 q5 q6 q7 hz
        go_wp2
        go_loopw [45] (fun i wr => LoopR zs w2 i wr) (fun i _ => zs.length - (intOf i).toNat)
        case atStart => exact ⟨0, Nat.zero_le _, rfl, Below.refl _ _, fun s hs => by simp at hs⟩
        case round =>
          obtain ⟨k, hk, rfl, hb, hsm⟩ := hrel
          have Hb := Lib.hid hb
          have Hsm := Lib.hid hsm
          clear hb hsm
          by_cases hlt : k < zs.length
          · obtain ⟨x, hx⟩ := get_some hlt
            obtain ⟨b, o, rfl, _, hbs, hi, hcc0, hcc1⟩ := (HE.out.below Hb.out).sym hx
            have Hts := Lib.hid (take_snoc hx)
            clear hx
            obtain ⟨tx, nx⟩ := x
            dsimp only at hcc0 hcc1
            by_cases hn0 : nx < 0
            · go_wp2
              go_ret
              exact ⟨rfl, bthen HX2.out.1 (Hb.out.alloc Hb.out.size _) HX2.out.1.size⟩
            · by_cases hn1 : 1000000 < nx
              · go_wp2
                go_ret
                exact ⟨rfl, bthen HX2.out.1 (Hb.out.alloc Hb.out.size _) HX2.out.1.size⟩
              · go_wp2
                go_roundw
                case rel => exact ⟨k + 1, by omega, by go_num, Hb.out.alloc Hb.out.size _, by
                  rw [Hts.out]
                  intro s hs
                  rcases List.mem_append.1 hs with h | h
                  · exact Hsm.out s h
                  · simp at h; subst h; dsimp only; omega⟩
                case measure => simp [intOf]; omega
          · have hsx : Small (xs ++ ys) := by
              rw [Hzs.out]
              have h := Hsm.out
              rwa [List.take_of_length_le (by omega)] at h
            have HSx := Lib.hid (show Small xs from fun s hs => hsx s (by simp [hs]))
            have HSy := Lib.hid (show Small ys from fun s hs => hsx s (by simp [hs]))
            have HX3 := Lib.hid (HX2.out.next Hb.out)
            obtain ⟨_, q0, q1, q2, q3, q4, q5, q6, q7, hz⟩ := HX3.out
            obtain ⟨g9', k9', hg9, hq1, hq2, hq3, hq4, hq5, hq6⟩ := H92.out.next Hb.out
            obtain ⟨g10', k10', hg10, hr1, hr2, hr3, hr4, hr5, hr6⟩ := H102.out.next Hb.out
            injection hg9 with hg9; injection hg9 with hg9; injection hg9 with hg9
            injection hg10 with hg10; injection hg10 with hg10; injection hg10 with hg10
            subst hg9; subst hg10
            clear hsx Hsm HX2 H92 H102
            have E1 : symCmp ⟨t, z⟩ ⟨t', z'⟩ = signR ⟨0, [⟨t, z⟩]⟩ ⟨0, [⟨t', z'⟩]⟩ := symCmp_sign _ _ ⟨Hr.out.1, Hr.out.2.2.1⟩ ⟨Hr.out.2.1, Hr.out.2.2.2⟩
            have E2 : ruleCmp ⟨l, xs⟩ ⟨l', ys⟩ = signR ⟨l, xs⟩ ⟨l', ys⟩ := ruleCmp_sign _ _ HSx.out HSy.out
            have HE1 := Lib.hid E1
            have HE2 := Lib.hid E2
            have S1 : Small [⟨t, z⟩] := fun s hs => by simp at hs; subst hs; exact ⟨Hr.out.1, Hr.out.2.2.1⟩
            have S2 : Small [⟨t', z'⟩] := fun s hs => by simp at hs; subst hs; exact ⟨Hr.out.2.1, Hr.out.2.2.2⟩
            have HS1 := Lib.hid S1
            have HS2 := Lib.hid S2
            have HA3 := Lib.hid (hA.below HX3.out.1)
            have HA3' := Lib.hid (hA'.below HX3.out.1)
            have HL63 : Hid (xs.length ≤ 9223372036854775807 ∧ ys.length ≤ 9223372036854775807) := Lib.hid ⟨by omega, by omega⟩
            clear E1 E2 S1 S2 HL hc1 hc2 hc1' hc2' hS
            go_upto_region 13 with fail
            have y0 : w.heap.size < wr.heap.size := by omega
            have y1 : w.heap.size + 1 < wr.heap.size := by omega
            have y2 : w.heap.size + 1 + 1 < wr.heap.size := by omega
            have y3 : w.heap.size + 1 + 1 + 1 < wr.heap.size := by omega
            have tok1 : True := trivial
            go_region_held3 (fun w' => (w'.cell? ⟨w.heap.size, 0, none⟩ = some (.bool t) ∧ w'.cell? ⟨w.heap.size, 1, none⟩ = some (.int .i64 z) ∧ w'.cell? ⟨w.heap.size + 1, 0, none⟩ = some (.bool t') ∧ w'.cell? ⟨w.heap.size + 1, 1, none⟩ = some (.int .i64 z') ∧ w'.cell? ⟨w.heap.size + 1 + 1, 0, none⟩ = some (.int .i64 l) ∧ w'.cell? ⟨w.heap.size + 1 + 1, 1, none⟩ = some (.slice A xs.length c) ∧ w'.cell? ⟨w.heap.size + 1 + 1 + 1, 0, none⟩ = some (.int .i64 l') ∧ w'.cell? ⟨w.heap.size + 1 + 1 + 1, 1, none⟩ = some (.slice A' ys.length c') ∧ w'.cell? ⟨g9, 0, none⟩ = some (.int .i64 0) ∧ w'.cell? ⟨g9, 1, none⟩ = some (.slice (some ⟨k9', 0, none⟩) 1 1) ∧ w'.cell? ⟨g10, 0, none⟩ = some (.int .i64 0) ∧ w'.cell? ⟨g10, 1, none⟩ = some (.slice (some ⟨k10', 0, none⟩) 1 1))) (go_keep)
              (first
              | (go_at_call 9; refine (order_any _ _ _ _ _).mono ?_; rintro e v1 ⟨rfl, hb1⟩; rw [HE1.out]; have hx1 : ∀ b o, b < wr.heap.size → v1.cell? ⟨b, o, none⟩ = wr.cell? ⟨b, o, none⟩ := (bcell hb1).1; have HV1 : Hid (Below wr.heap.size wr v1) := Lib.hid (bundrew hb1); clear hb1; have m1 : wr.heap.size ≤ v1.heap.size := HV1.out.size; have v10 : w.heap.size < v1.heap.size := (by omega); have v11 : w.heap.size + 1 < v1.heap.size := (by omega); have v12 : w.heap.size + 1 + 1 < v1.heap.size := (by omega); have v13 : w.heap.size + 1 + 1 + 1 < v1.heap.size := (by omega); have v14 : g9 < v1.heap.size := (by omega); have v15 : g10 < v1.heap.size := (by omega); have v16 : k9' < v1.heap.size := (by omega); have v17 : k10' < v1.heap.size := (by omega))
              | (go_at_call 10; have _t := tok1; clear tok1 _t; refine (sign_any 0 0 (some ⟨k9', 0, none⟩) (some ⟨k10', 0, none⟩) 1 1 [⟨t, z⟩] [⟨t', z'⟩] (fun _ => True) _ one_le63 one_le63 ?_ ?_ HS1.out HS2.out).mono ?_; exact (One.els ha hq5 hq6).below HV1.out; exact (One.els hb hr5 hr6).below HV1.out; rintro e v2 ⟨rfl, hb2⟩; have hx2 : ∀ b o, b < v1.heap.size → v2.cell? ⟨b, o, none⟩ = v1.cell? ⟨b, o, none⟩ := (bcell hb2).1; have HV2 := Lib.hid hb2; clear hb2; have m2 : v1.heap.size ≤ v2.heap.size := HV2.out.size; have v20 : w.heap.size < v2.heap.size := (by omega); have v21 : w.heap.size + 1 < v2.heap.size := (by omega); have v22 : w.heap.size + 1 + 1 < v2.heap.size := (by omega); have v23 : w.heap.size + 1 + 1 + 1 < v2.heap.size := (by omega); have v24 : g9 < v2.heap.size := (by omega); have v25 : g10 < v2.heap.size := (by omega); have v26 : k9' < v2.heap.size := (by omega); have v27 : k10' < v2.heap.size := (by omega))
              | (go_at_call 13; refine (compare_any l l' A A' c c' xs ys S _ HL63.out.1 HL63.out.2 ((HA3.out.below HV1.out).below HV2.out) ((HA3'.out.below HV1.out).below HV2.out)).mono ?_; rintro e v3 ⟨rfl, hb3⟩; rw [HE2.out]; have hx3 : ∀ b o, b < v2.heap.size → v3.cell? ⟨b, o, none⟩ = v2.cell? ⟨b, o, none⟩ := (bcell hb3).1; have HV3 := Lib.hid hb3; clear hb3; have m3 : v2.heap.size ≤ v3.heap.size := HV3.out.size; have v30 : w.heap.size < v3.heap.size := (by omega); have v31 : w.heap.size + 1 < v3.heap.size := (by omega); have v32 : w.heap.size + 1 + 1 < v3.heap.size := (by omega); have v33 : w.heap.size + 1 + 1 + 1 < v3.heap.size := (by omega); have v34 : g9 < v3.heap.size := (by omega); have v35 : g10 < v3.heap.size := (by omega); have v36 : k9' < v3.heap.size := (by omega); have v37 : k10' < v3.heap.size := (by omega))
              | (go_at_call 10; have _t := HV3; refine (sign_any l l' A A' c c' xs ys S _ HL63.out.1 HL63.out.2 (((HA3.out.below HV1.out).below HV2.out).below HV3.out) (((HA3'.out.below HV1.out).below HV2.out).below HV3.out) HSx.out HSy.out).mono ?_; rintro e v4 ⟨rfl, hb4⟩; have hx4 : ∀ b o, b < v3.heap.size → v4.cell? ⟨b, o, none⟩ = v3.cell? ⟨b, o, none⟩ := (bcell hb4).1; have HV4 := Lib.hid hb4; clear hb4; have m4 : v3.heap.size ≤ v4.heap.size := HV4.out.size; have v40 : w.heap.size < v4.heap.size := (by omega); have v41 : w.heap.size + 1 < v4.heap.size := (by omega); have v42 : w.heap.size + 1 + 1 < v4.heap.size := (by omega); have v43 : w.heap.size + 1 + 1 + 1 < v4.heap.size := (by omega); have v44 : g9 < v4.heap.size := (by omega); have v45 : g10 < v4.heap.size := (by omega); have v46 : k9' < v4.heap.size := (by omega); have v47 : k10' < v4.heap.size := (by omega)))
            all_goals
              clear hx1 hx2 hx3 hx4
              go_wp2
              go_ret
              exact ⟨ret_bool (by simp), bthen (bthen (bthen (bthen HX3.out.1 HV1.out (by omega)) HV2.out (by omega)) HV3.out (by omega)) HV4.out (by omega)⟩
      · clear hr
        go_wp2_with fail
        go_ret
        exact ⟨rfl, HBw.out⟩
end Go.Proofs.Ytmfakaicgbpmfaa
