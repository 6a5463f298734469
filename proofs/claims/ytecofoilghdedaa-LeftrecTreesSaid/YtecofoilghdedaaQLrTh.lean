/- Contracts: (*leftrec.plan).kids, there: what becomes of a tree. -/
import Derived.Test.YtecofoilghdedaaQLrP
import Derived.Test.YtecofoilghdedaaQLeftOf
import Derived.Test.YtecofoilghdedaaQGTree
import Derived.Test.YtecofoilghdedaaQp2
import Derived.Test.YtecofoilghdedaaQp1
namespace Go.Proofs.Ytecofoilghdedaa
open Go.RowKit
set_option linter.unusedVariables false

/-- The memory of a plan. -/
structure PlanM (w : World) (P gT : Nat) (g : Gram) (n : Nat) (A A1 A2 : Option Addr) (c c1 c2 : Nat) (Sg Sp : Nat → Prop) : Prop where
  ptr : Blk' w P 82 #[.int .i64 g.terms, .int .i64 g.nons, .int .i64 g.start, .slice A g.rules.length c, .int .i64 (strG g n).terms, .int .i64 (strG g n).nons, .int .i64 (strG g n).start, .slice A1 (strG g n).rules.length c1, .slice (some ⟨gT, 0, none⟩) n n, .slice A2 (fromL g n).length c2]
  els : Els w Sg g.rules A
  outs : Els w Sp (strG g n).rules A1
  frm : Els w Sp (fromL g n) A2
  tails : Blk' w gT 3 (icells (tailsL g n n))
theorem PlanM.below {w w' : World} {P gT : Nat} {g : Gram} {n : Nat} {A A1 A2 : Option Addr} {c c1 c2 : Nat} {Sg Sp : Nat → Prop} (h : PlanM w P gT g n A A1 A2 c c1 c2 Sg Sp) (hb : Below w.heap.size w w') : PlanM w' P gT g n A A1 A2 c c1 c2 Sg Sp :=
  ⟨h.ptr.below hb h.ptr.lt, h.els.below hb, h.outs.below hb, h.frm.below hb, h.tails.below hb h.tails.lt⟩
def RetLT (t : Tree) (w : World) (e : Ending) (w' : World) : Prop :=
  ∃ (A : Option Addr) (c : Nat), e = .returned (.agg #[.int .i64 t.rule, .int .i64 t.term, .slice A t.kids.length c]) ∧ I64 t.rule ∧ I64 t.term ∧ t.kids.length ≤ c ∧ c ≤ 9223372036854775807 ∧ Els w' (fun b => w.heap.size ≤ b ∧ b < w'.heap.size) t.kids A ∧ Below w.heap.size w w'
def ThOk (P gT : Nat) (g : Gram) (n : Nat) (A A1 A2 : Option Addr) (c c1 c2 : Nat) (Sg Sp : Nat → Prop) (t : Tree) : Prop :=
  ∀ (w : World) (B : Option Addr) (d : Nat) (S : Nat → Prop), PlanM w P gT g n A A1 A2 c c1 c2 Sg Sp → I64 t.rule → I64 t.term → t.kids.length ≤ d → d ≤ 9223372036854775807 → Els w S t.kids B → (∀ b, S b → b < w.heap.size) →
    Calls Try.prog 27 #[.pointer (some ⟨P, 0, none⟩), .agg #[.int .i64 t.rule, .int .i64 t.term, .slice B t.kids.length d]] w (RetLT (thT g n t) w)
theorem thL_take {g : Gram} {n : Nat} {ks : List Tree} {m : Nat} {k : Tree} (h : ks[m]? = some k) : thL g n (ks.take (m + 1)) = thL g n (ks.take m) ++ [thT g n k] := by
  rw [thL_map, thL_map, take_snoc h]
  simp
theorem Own.anyS {α : Type} [Dat α] {w : World} {base : Nat} {e : TypeId} {v : Value} {xs : List α} (h : Own w (fun _ => False) base e v xs) (S : Nat → Prop) : Own w S base e v xs :=
  h.toX.own (fun b hb => .inr (hb.1.resolve_left id))

set_option maxRecDepth 100000 in
set_option maxHeartbeats 4000000 in
theorem kidsTh_any {P gT : Nat} {g : Gram} {n : Nat} {A A1 A2 : Option Addr} {c c1 c2 : Nat} {Sg Sp : Nat → Prop} (ks : List Tree) (IH : ∀ k ∈ ks, ThOk P gT g n A A1 A2 c c1 c2 Sg Sp k) (w : World) (B : Option Addr) (d : Nat) (S : Nat → Prop) (hp : PlanM w P gT g n A A1 A2 c c1 c2 Sg Sp) (hl : ks.length ≤ 1000) (hld : ks.length ≤ d) (hB : Els w S ks B) (hS : ∀ b, S b → b < w.heap.size) :
    Calls Try.prog 55 #[.pointer (some ⟨P, 0, none⟩), .slice B ks.length d] w (RetOwn w (fun _ => False) 47 (thL g n ks)) := by
  have HIH := Lib.hid IH
  have HP := Lib.hid hp
  have HB := Lib.hid hB
  have HS := Lib.hid hS
  clear IH hp hB hS
  go_enter Try.func55, Try.ntmps55
  go_wp2_with fail
  go_loopw [5, 10] (fun l i wr => ∃ (m : Nat) (v : Value), m ≤ ks.length ∧ l = v ∧ i = .int .i64 m ∧ Own wr (fun _ => False) w.heap.size 47 v (thL g n (ks.take m)) ∧ Below w.heap.size w wr) (fun _ i _ => ks.length - (intOf i).toNat)
  case atStart => exact ⟨0, _, Nat.zero_le _, rfl, rfl, by simpa [thL] using Own.nil _ _ _ _, Below.refl _ _⟩
  case round =>
    obtain ⟨wo, hwo⟩ : ∃ wo : World, wo = wr := ⟨_, rfl⟩
    subst hwo
    obtain ⟨m, v, hm, ev, rfl, hO, hb⟩ := hrel
    replace ev := ev.symm
    subst ev
    have HO := Lib.hid hO
    have HBo := Lib.hid hb
    clear hO hb
    by_cases hmn : m < ks.length
    · obtain ⟨k, hk⟩ := get_some hmn
      obtain ⟨bk, ok, A', c', rfl, hSb, hbs, i1, i2, hkl, hc', hEk, k0, k1, k2⟩ := (HB.out.belowB HBo.out HS.out).tree hk
      have HK := Lib.hid hk
      have HIk := Lib.hid (HIH.out k (List.mem_of_getElem? hk))
      have hm0 : (0 : Int) ≤ (m : Int) := by omega
      have hm9 : (m : Int) < (ks.length : Int) := by omega
      have HI12 := Lib.hid (And.intro i1 (And.intro i2 (And.intro hkl hc')))
      obtain ⟨kl, hkle⟩ : ∃ kl, kl = k.kids.length := ⟨_, rfl⟩
      rw [← hkle] at k2
      have HKl := Lib.hid hkle
      obtain ⟨w2, hw2⟩ : ∃ w2 : World, w2 = wo.alloc (.cells #[.int .i64 k.rule, .int .i64 k.term, .slice A' kl c'] 47) := ⟨_, rfl⟩
      have HW2 := Lib.hid hw2
      have hb2 : Below wo.heap.size wo w2 := by rw [hw2]; exact (Below.refl _ _).alloc (Nat.le_refl _) _
      have HX2 : Hid (Blk' w2 wo.heap.size 47 #[.int .i64 k.rule, .int .i64 k.term, .slice A' kl c']) := Lib.hid (by rw [hw2]; exact Blk'.new _ _ _)
      have HB2 := Lib.hid (bthen HBo.out hb2 HBo.out.size)
      have HE2 := Lib.hid (hEk.below hb2)
      have HO2 := Lib.hid (HO.out.below hb2 (Nat.le_refl _))
      clear hk i1 i2 hkl hEk hw2 hb2 hkle
      go_upto_region 5 with (fail)
      rw [← HW2.out]
      have x0 : w2.cell? ⟨wo.heap.size, 0, none⟩ = some (.int .i64 k.rule) := HX2.out.cell 0
      have x1 : w2.cell? ⟨wo.heap.size, 1, none⟩ = some (.int .i64 k.term) := HX2.out.cell 1
      have x2 : w2.cell? ⟨wo.heap.size, 2, none⟩ = some (.slice A' kl c') := HX2.out.cell 2
      have zX : wo.heap.size < w2.heap.size := HX2.out.lt
      clear k0 k1 k2 hSb hbs HW2
      go_wp2_with fail
      rw [HKl.out]
      refine (HIk.out w2 A' c' S (HP.out.below HB2.out) HI12.out.1 HI12.out.2.1 HI12.out.2.2.1 HI12.out.2.2.2 HE2.out (fun b hb => by have := HS.out b hb; have := HB2.out.size; omega)).mono ?_
      rintro e w3 ⟨At', ct, rfl, j1, j2, j3, j4, hE3, hb3⟩
      have HB3 := Lib.hid (bthen HB2.out hb3 HB2.out.size)
      have HO3 := Lib.hid (HO2.out.below hb3 (Nat.le_refl _))
      obtain ⟨y, hy⟩ : ∃ y, y = thT g n k := ⟨_, rfl⟩
      rw [← hy] at j1 j2 j3 hE3
      rw [← hy]
      have HY := Lib.hid hy
      obtain ⟨yl, hyl⟩ : ∃ yl, yl = y.kids.length := ⟨_, rfl⟩
      have HYl := Lib.hid hyl
      rw [← hyl] at j3
      rw [← hyl]
      have hzo := HO2.out
      have HRd : Hid (Dat.rd (w3.alloc (.cells #[.int .i64 y.rule, .int .i64 y.term, .slice At' yl ct] 47)) (OwnT (fun _ => False) w.heap.size v (w3.alloc (.cells #[.int .i64 y.rule, .int .i64 y.term, .slice At' yl ct] 47))) y [.int .i64 y.rule, .int .i64 y.term, .slice At' yl ct]) := Lib.hid (rd_tree.2 ⟨_, rfl, j1, j2, by
        rw [hyl] at j3 ⊢
        refine Vl.of_slice rfl j3 j4 (hE3.keep (fun p hp hlt => ((Below.refl _ _).alloc (Nat.le_refl _) _).cell hlt) (fun b hb => ⟨.inr (by have := HB2.out.size; omega), fun h => by have := (hzo.block b h).2; omega, by simp; omega⟩))⟩)
      have HCp : Hid (((thL g n (ks.take m)).length + 1) * 40 ≤ 140737488355328 ∧ (thL g n (ks.take m)).length + 1 ≤ 9223372036854775807 ∧ w.heap.size ≤ (w3.alloc (.cells #[.int .i64 y.rule, .int .i64 y.term, .slice At' yl ct] 47)).heap.size) := Lib.hid ⟨by rw [thL_map, List.length_map, List.length_take]; omega, by rw [thL_map, List.length_map, List.length_take]; omega, by have := HB3.out.size; simp; omega⟩
      clear hzo hy hyl j1 j2 j3 hE3 hb3 x0 x1 x2 zX
      go_wp2_with (at_builtin; (refine wpList_own1 _ rfl _ _ elemTree rfl rfl (HO3.out.alloc (.cells #[.int .i64 y.rule, .int .i64 y.term, .slice At' yl ct] 47)) y [.int .i64 y.rule, .int .i64 y.term, .slice At' yl ct] rfl (At.new _ _ _) HRd.out HCp.out.1 HCp.out.2.1 HCp.out.2.2 ?_); (intro v' w4 hO4 hg4 _); (rw [HY.out, ← thL_take HK.out] at hO4); (have HO4 := Lib.hid hO4); (have HB4 := Lib.hid (bgrown (HB3.out.alloc HB3.out.size _) hg4 (HO3.out.alloc _) (Nat.le_refl _) HCp.out.2.2)); (clear hO4 hg4))
      go_roundw
      case rel => exact ⟨m + 1, _, hmn, rfl, by go_num, HO4.out, HB4.out⟩
      case measure => simp [intOf]; omega
    · have hmm : m = ks.length := by omega
      have HFin : Hid (Own wo (fun _ => False) w.heap.size 47 v (thL g n ks)) := Lib.hid (by have h := HO.out; rw [hmm, List.take_length] at h; exact h)
      clear hmm
      go_wp2
      go_ret
      exact ⟨v, rfl, HFin.out, HBo.out⟩

theorem leafL_any (a : Int) (w : World) : Calls Try.prog 54 #[.int .i64 a] w fun e w' => e = .returned (.agg #[.int .i64 (-1), .int .i64 a, .slice none 0 0]) ∧ Below w.heap.size w w' := by
  go_enter Try.func54, Try.ntmps54
  go_wp2
  exact bodyPost_ret (v := .agg #[.int .i64 (-1), .int .i64 a, .slice none 0 0]) (by simp [results, Try.results54, go_sem]) rfl ⟨rfl, (Below.refl _ _).alloc (Nat.le_refl _) _⟩
theorem set3 {w : World} {b : Nat} {t : TypeId} {a0 a1 a2 : Value} (h : Blk' w b t #[a0, a1, a2]) (v0 v1 v2 : Value) :
    Blk' (((w.setCell ⟨b, 0, none⟩ v0).setCell ⟨b, 1, none⟩ v1).setCell ⟨b, 2, none⟩ v2) b t #[v0, v1, v2] ∧ Kept (fun x => x = b) w (((w.setCell ⟨b, 0, none⟩ v0).setCell ⟨b, 1, none⟩ v1).setCell ⟨b, 2, none⟩ v2) :=
  ⟨((h.set_ 0 _).set_ 1 _).set_ 2 _, (((Kept.refl (fun x => x = b) w).setCell (p := ⟨b, 0, none⟩) (.inl rfl) _).setCell (p := ⟨b, 1, none⟩) (.inl rfl) _).setCell (p := ⟨b, 2, none⟩) (.inl rfl) _⟩
theorem vts_mem {g : Gram} : ∀ (ks : List Tree) (ss : List Sym), vts g ks ss → ∀ k ∈ ks, ∃ s ∈ ss, vt g k s
  | [], _, _, k, hk => by simp at hk
  | x :: ks, [], h, _, _ => by simp [vts] at h
  | x :: ks, s :: ss, h, k, hk => by
    unfold vts at h
    rcases List.mem_cons.1 hk with rfl | hk
    · exact ⟨s, by simp, h.1⟩
    · obtain ⟨s', h1, h2⟩ := vts_mem ks ss h.2 k hk
      exact ⟨s', by simp [h1], h2⟩
theorem vts_same {g : Gram} : ∀ (ks : List Tree) (ss : List Sym), vts g ks ss → ks.length = ss.length
  | [], [], _ => rfl
  | [], _ :: _, h => by simp [vts] at h
  | _ :: _, [], h => by simp [vts] at h
  | x :: ks, s :: ss, h => by unfold vts at h; simp [vts_same ks ss h.2]

/-- On the way along the left spine: x the tree, e the end. -/
structure LrL (T3 E6 R4 : Nat) (S : Nat → Prop) (g : Gram) (n l H : Nat) (t0 : Tree) (w6 wr : World) (x e : Tree) (Bx Ae : Option Addr) (dx de : Nat) : Prop where
  tb : Blk' wr T3 47 #[.int .i64 x.rule, .int .i64 x.term, .slice Bx x.kids.length dx]
  eb : Blk' wr E6 47 #[.int .i64 e.rule, .int .i64 e.term, .slice Ae e.kids.length de]
  x1 : I64 x.rule
  x2 : I64 x.term
  x3 : x.kids.length ≤ dx
  x4 : dx ≤ 9223372036854775807
  xe : Els wr S x.kids Bx
  e1 : I64 e.rule
  e2 : I64 e.term
  e3 : e.kids.length ≤ de
  e4 : de ≤ 9223372036854775807
  ee : Els wr (fun b => H ≤ b ∧ b < wr.heap.size ∧ b ≠ T3 ∧ b ≠ E6 ∧ b ≠ R4) e.kids Ae
  vx : vt g x ⟨false, (l : Int)⟩
  th : thT g n t0 = thS g n x e
  kept : Kept (fun b => b = T3 ∨ b = E6) w6 wr

theorem LrL.below {T3 E6 R4 : Nat} {S : Nat → Prop} {g : Gram} {n l H : Nat} {t0 : Tree} {w6 wr wx : World} {x e : Tree} {Bx Ae : Option Addr} {dx de : Nat} (h : LrL T3 E6 R4 S g n l H t0 w6 wr x e Bx Ae dx de) (hb : Below wr.heap.size wr wx) : LrL T3 E6 R4 S g n l H t0 w6 wx x e Bx Ae dx de :=
  ⟨h.tb.below hb h.tb.lt, h.eb.below hb h.eb.lt, h.x1, h.x2, h.x3, h.x4, h.xe.below hb, h.e1, h.e2, h.e3, h.e4, (h.ee.below hb).keep (fun _ _ _ => rfl) (fun b hb' => ⟨hb'.1, Nat.lt_of_lt_of_le hb'.2.1 hb.size, hb'.2.2⟩), h.vx, h.th, h.kept.below hb⟩

set_option maxRecDepth 100000 in
set_option maxHeartbeats 8000000 in
theorem there_any {P gT : Nat} {g : Gram} {n : Nat} {A A1 A2 : Option Addr} {c c1 c2 : Nat} {Sg Sp : Nat → Prop} (hv : ValidG g) (hgn : g.nons = (n : Int)) (hlc : g.rules.length ≤ c) (hc : c ≤ 9223372036854775807) :
    ∀ (N : Nat) (t : Tree) (s : Sym), nodesT t ≤ N → vt g t s → ThOk P gT g n A A1 A2 c c1 c2 Sg Sp t := by
  intro N
  induction N with
  | zero => intro t s hn; obtain ⟨r, tt, ks⟩ := t; simp [nodesT] at hn
  | succ N ih =>
  intro t s hn hvt w B d S hp i1 i2 hld hd hB hS
  obtain ⟨r, tt, ks⟩ := t
  dsimp only [Tree.rule, Tree.term, Tree.kids] at i1 i2 hld hB ⊢
  have HP := Lib.hid hp
  have HB := Lib.hid hB
  have HS := Lib.hid hS
  have HV := Lib.hid hv
  have HIh := Lib.hid ih
  have hn10 : n ≤ 10 := by have := hv.n10; omega
  have hrl : g.rules.length ≤ 32 := hv.len
  obtain ⟨T3, hT3⟩ : ∃ b, b = w.heap.size := ⟨_, rfl⟩
  obtain ⟨R4, hR4⟩ : ∃ b, b = w.heap.size + 1 := ⟨_, rfl⟩
  obtain ⟨w1, hw1⟩ : ∃ w1 : World, w1 = (w.alloc (.cells #[.int .i64 r, .int .i64 tt, .slice B ks.length d] 47)).alloc (.cells #[.int .i64 0, .int .i64 0, .slice none 0 0] 47) := ⟨_, rfl⟩
  have HW1 := Lib.hid hw1
  have hb1 : Below w.heap.size w w1 := by rw [hw1]; exact ((Below.refl _ _).alloc (Nat.le_refl _) _).alloc (by simp) _
  have HT1 : Hid (Blk' w1 T3 47 #[.int .i64 r, .int .i64 tt, .slice B ks.length d]) := Lib.hid (by rw [hw1, hT3]; exact (Blk'.new _ _ _).alloc _)
  have HR1 : Hid (Blk' w1 R4 47 #[.int .i64 0, .int .i64 0, .slice none 0 0]) := Lib.hid (by rw [hw1]; exact Blk'.new' _ _ _ (by rw [hR4]; simp))
  have HZ : Hid (T3 = w.heap.size ∧ R4 = w.heap.size + 1 ∧ w1.heap.size = w.heap.size + 2 ∧ P < w.heap.size ∧ gT < w.heap.size) := Lib.hid ⟨hT3, hR4, by rw [hw1]; simp, hp.ptr.lt, hp.tails.lt⟩
  have HPm := Lib.hid (hp.below hb1)
  have HB1 := Lib.hid hb1
  have HEk := Lib.hid (hB.below hb1)
  clear hw1 hb1 hp hB hS ih hv
  go_enter Try.func27, Try.ntmps27
  go_upto_region 1 with (fail)
  rw [← HW1.out, ← hR4, ← hT3]
  clear HW1 hR4 hT3
  have t0 : w1.cell? ⟨T3, 0, none⟩ = some (.int .i64 r) := HT1.out.cell 0
  have t1 : w1.cell? ⟨T3, 1, none⟩ = some (.int .i64 tt) := HT1.out.cell 1
  have t2 : w1.cell? ⟨T3, 2, none⟩ = some (.slice B ks.length d) := HT1.out.cell 2
  have zT : T3 < w1.heap.size := HT1.out.lt
  by_cases hr : r < 0
  · have hth : thT g n ⟨r, tt, ks⟩ = ⟨-1, tt, []⟩ := by unfold thT; rw [if_pos hr]
    have HTh := Lib.hid hth
    have HI2 := Lib.hid i2
    clear hth i1 i2 hvt hn
    go_wp2_with fail
    refine (leafL_any tt w1).mono ?_
    rintro e w2 ⟨rfl, hb2⟩
    have HR2 := Lib.hid (HR1.out.below hb2 HR1.out.lt)
    have HB2 := Lib.hid (bthen HB1.out hb2 HB1.out.size)
    have q0 := HR2.out.cell 0
    have q1 := HR2.out.cell 1
    have q2 := HR2.out.cell 2
    have f0 := HR2.out.frozen 0
    have f1 := HR2.out.frozen 1
    have f2 := HR2.out.frozen 2
    have zR := HR2.out.lt
    simp at q0 q1 q2
    clear hb2 t0 t1 t2 zT
    go_wp2_with fail
    generalize hwF : World.setCell _ _ _ = wF
    obtain ⟨hRF, kF⟩ := set3 HR2.out (.int .i64 (-1)) (.int .i64 tt) (.slice none 0 0)
    rw [hwF] at hRF kF
    have u0 : wF.cell? ⟨R4, 0, none⟩ = some (.int .i64 (-1)) := hRF.cell 0
    have u1 : wF.cell? ⟨R4, 1, none⟩ = some (.int .i64 tt) := hRF.cell 1
    have u2 : wF.cell? ⟨R4, 2, none⟩ = some (.slice none 0 0) := hRF.cell 2
    have hz := HZ.out
    refine bodyPost_ret (v := .agg #[.int .i64 (-1), .int .i64 tt, .slice none 0 0]) (by simp [results, Try.results27, go_sem, u0, u1, u2]) rfl ?_
    rw [HTh.out]
    exact ⟨none, 0, rfl, (show I64 (-1) from ⟨by decide, by decide⟩), HI2.out, Nat.le_refl _, by omega, fun h => absurd rfl h, HB2.out.trans (kF.to_below (B := w.heap.size) (fun b hb => by omega) HB2.out.size)⟩
  · have hst : s.term = false := by
      cases hs : s.term
      · rfl
      · unfold vt at hvt
        rw [if_pos hs] at hvt
        omega
    unfold vt at hvt
    rw [if_neg (by simp [hst])] at hvt
    obtain ⟨htt, hr0, q, hq, hql, hks⟩ := hvt
    subst htt
    obtain ⟨i, rfl⟩ : ∃ i : Nat, r = (i : Int) := ⟨r.toNat, by omega⟩
    rw [Int.toNat_natCast] at hq
    have hqv := HV.out.rules q (List.mem_of_getElem? hq)
    obtain ⟨l, hl⟩ : ∃ l : Nat, q.left = (l : Int) := ⟨q.left.toNat, by omega⟩
    have hln : l < n := by omega
    have hra : ruleAt g (i : Int) = q := by unfold ruleAt; rw [Int.toNat_natCast, List.getD_eq_getElem?_getD, hq]; rfl
    obtain ⟨tv, htv⟩ : ∃ tv, tv = tailI g n l := ⟨_, rfl⟩
    have HTv := Lib.hid htv
    have htl : tlT g n (i : Int) = tv := by unfold tlT; rw [hra, hl, htv]; rfl
    have hil : i < g.rules.length := (List.getElem?_eq_some_iff.1 hq).1
    have hks4 : ks.length ≤ 4 := by rw [vts_same ks q.right hks]; exact hqv.2.2.1
    obtain ⟨bq, oq, Aq, cq, eA, hSq, hbq, hqi, hrc, hcq, hEq, hq0, hq1⟩ := HPm.out.els.rule hq
    rw [hl] at hq0
    have p8 : w1.cell? ⟨P, 8, none⟩ = some (.slice (some ⟨gT, 0, none⟩) n n) := HPm.out.ptr.cell 8
    have p3 : w1.cell? ⟨P, 3, none⟩ = some (.slice A g.rules.length c) := HPm.out.ptr.cell 3
    have g0 : w1.cell? ⟨gT, l, none⟩ = some (.int .i64 tv) := (HPm.out.tails.cell _).trans (icells_get (by rw [tailsL_get hln (Nat.le_refl _), if_pos hln, htv]))
    have zP : P < w1.heap.size := HPm.out.ptr.lt
    have hi9 : (i : Int) < (g.rules.length : Int) := by omega
    have hi0 : (0 : Int) ≤ (i : Int) := by omega
    have hl9 : (l : Int) < (n : Int) := by omega
    have HKids : Hid (∀ k ∈ ks, ThOk P gT g n A A1 A2 c c1 c2 Sg Sp k) := Lib.hid (fun k hk => by
      obtain ⟨s', _, h2⟩ := vts_mem ks q.right hks k hk
      have h3 := nodes_mem hk
      simp only [nodesT] at hn
      exact HIh.out k s' (by omega) h2)
    have HQ := Lib.hid (And.intro hq (And.intro hql (And.intro hks hqv)))
    have HI1 := Lib.hid i1
    have HNd := Lib.hid hn
    have HRa := Lib.hid hra
    have HTl := Lib.hid htl
    have HLq := Lib.hid hl
    clear i1 i2 hn hqi hEq hq1 htv hra htl hl hql hks hqv hr0 hq
    subst eA
    go_upto_region 3 with (fail)
    go_quiet (fail)
    obtain ⟨w2, hw2⟩ : ∃ w2 : World, w2 = w1.drewN nq := ⟨_, rfl⟩
    have hb2 : Below w1.heap.size w1 w2 := by rw [hw2]; exact bdrewN (Below.refl _ _)
    rw [← hw2]
    have HT2 := Lib.hid (HT1.out.below hb2 HT1.out.lt)
    have HR2 := Lib.hid (HR1.out.below hb2 HR1.out.lt)
    have HP2 := Lib.hid (HPm.out.below hb2)
    have HE2 := Lib.hid (HEk.out.below hb2)
    have HB2 := Lib.hid (bthen HB1.out hb2 HB1.out.size)
    have HZ2 : Hid (w1.heap.size ≤ w2.heap.size) := Lib.hid hb2.size
    clear t0 t1 t2 p8 p3 g0 zT zP hq0 hbq hSq hw2 hb2
    by_cases htv0 : tv < 0
    · have t0 : w2.cell? ⟨T3, 0, none⟩ = some (.int .i64 (i : Int)) := HT2.out.cell 0
      have t2 : w2.cell? ⟨T3, 2, none⟩ = some (.slice B ks.length d) := HT2.out.cell 2
      have zT : T3 < w2.heap.size := HT2.out.lt
      go_wp2_with fail
      refine wp_region_noPanic ?_
      refine stage_start (S := (fun w' => w'.cell? ⟨T3, 0, none⟩ = some (.int .i64 (i : Int)) ∧ w'.cell? ⟨T3, 2, none⟩ = some (.slice B ks.length d))) 7 (by kernel_rfl) ?ha (fun hHeld => ?ba)
      case ha => ((try dsimp only); go_keep)
      refine st_pure (i := 0) (v := ?va0) rfl (by kernel_rfl) (by kernel_rfl) (by kernel_rfl) (by kernel_rfl) (fun _ _ _ h => h) (by rfl) ?ya0 (.inl (by assumption)) ?ra0
      case ya0 => (intro w; go_simp; try with_reducible rfl)
      try simp only [Act.put, List.setIfInBounds_toArray, List.set_cons_zero, List.set_cons_succ]
      refine st_run (i := 1) (v := ?va1) rfl (by kernel_rfl) (by kernel_rfl) (by kernel_rfl) (by kernel_rfl) (fun _ _ _ h => h) (by rfl) ?ya1 (by assumption) ?ra1
      case ya1 => (intro w hSw; (try dsimp only at hSw); go_simp; try with_reducible rfl)
      try simp only [Act.put, List.setIfInBounds_toArray, List.set_cons_zero, List.set_cons_succ]
      refine st_pure (i := 2) (v := ?va2) rfl (by kernel_rfl) (by kernel_rfl) (by kernel_rfl) (by kernel_rfl) (fun _ _ _ h => h) (by rfl) ?ya2 (.inl (by assumption)) ?ra2
      case ya2 => (intro w; go_simp; try with_reducible rfl)
      try simp only [Act.put, List.setIfInBounds_toArray, List.set_cons_zero, List.set_cons_succ]
      refine st_pure (i := 3) (v := ?va3) rfl (by kernel_rfl) (by kernel_rfl) (by kernel_rfl) (by kernel_rfl) (fun _ _ _ h => h) (by rfl) ?ya3 (.inl (by assumption)) ?ra3
      case ya3 => (intro w; go_simp; try with_reducible rfl)
      try simp only [Act.put, List.setIfInBounds_toArray, List.set_cons_zero, List.set_cons_succ]
      refine st_run (i := 4) (v := ?va4) rfl (by kernel_rfl) (by kernel_rfl) (by kernel_rfl) (by kernel_rfl) (fun _ _ _ h => h) (by rfl) ?ya4 (by assumption) ?ra4
      case ya4 => (intro w hSw; (try dsimp only at hSw); go_simp; try with_reducible rfl)
      try simp only [Act.put, List.setIfInBounds_toArray, List.set_cons_zero, List.set_cons_succ]
      refine st_one (i := 5) rfl (by kernel_rfl) (by rfl) (fun Kq hK => ?_)
      go_simp
      go_at_call 55
      refine (kidsTh_any ks HKids.out w2.drew B d S (HP2.out.below (Below.refl _ _).drew) (by omega) hld (HE2.out.below (Below.refl _ _).drew) (fun b hb => by have h1 := HS.out b hb; have h2 := HB2.out.size; exact Nat.lt_of_lt_of_le h1 h2)).mono ?_
      rintro e w3 ⟨v, rfl, hO3, hb3⟩
      replace hb3 : Below w2.heap.size w2 w3 := bundrew hb3
      have HO3 := Lib.hid hO3
      have HB3 := Lib.hid hb3
      have HR3 := Lib.hid (HR2.out.below hb3 HR2.out.lt)
      have t0b : w3.cell? ⟨T3, 0, none⟩ = some (.int .i64 (i : Int)) := (hb3.cell (p := ⟨T3, 0, none⟩) zT).trans t0
      have t2b : w3.cell? ⟨T3, 2, none⟩ = some (.slice B ks.length d) := (hb3.cell (p := ⟨T3, 2, none⟩) zT).trans t2
      obtain ⟨Av, cv, ev, hlv, hcv, _⟩ := hO3.form
      obtain ⟨nv, hnv⟩ : ∃ nv, nv = (thL g n ks).length := ⟨_, rfl⟩
      have HNv := Lib.hid hnv
      rw [← hnv] at ev
      subst ev
      have q0 := HR3.out.cell 0
      have q1 := HR3.out.cell 1
      have q2 := HR3.out.cell 2
      have f0 := HR3.out.frozen 0
      have f1 := HR3.out.frozen 1
      have f2 := HR3.out.frozen 2
      have zR := HR3.out.lt
      simp at q0 q1 q2
      clear hO3 hb3 hnv hlv
      refine hK.out _ _ ?ha5 (fun hHeld => ?ra5)
      case ha5 => ((try dsimp only); go_keep)
      clear hK Kq
      try simp only [Act.put, List.setIfInBounds_toArray, List.set_cons_zero, List.set_cons_succ]
      refine st_pure (i := 6) (v := ?va6) rfl (by kernel_rfl) (by kernel_rfl) (by kernel_rfl) (by kernel_rfl) (fun _ _ _ h => h) (by rfl) ?ya6 (.inl (by assumption)) ?ra6
      case ya6 => (intro w; go_simp; try with_reducible rfl)
      try simp only [Act.put, List.setIfInBounds_toArray, List.set_cons_zero, List.set_cons_succ]
      refine st_late (i := 7) rfl (by kernel_rfl) (by rfl) (by kernel_rfl) (fun Kq hK => ?_)
      go_simp
      refine hK.out _ _ ?_
      clear hK Kq
      try simp only [Act.put, List.setIfInBounds_toArray, List.set_cons_zero, List.set_cons_succ]
      refine wpAnyD_done (by kernel_rfl) ?_ _
      refine NoPanic.normal ?_
      go_wp2_with fail
      generalize hwF : World.setCell _ _ _ = wF
      obtain ⟨hRF, kF⟩ := set3 HR3.out (.int .i64 (i : Int)) (.int .i64 0) (.slice Av nv cv)
      rw [hwF] at hRF kF
      have u0 : wF.cell? ⟨R4, 0, none⟩ = some (.int .i64 (i : Int)) := hRF.cell 0
      have u1 : wF.cell? ⟨R4, 1, none⟩ = some (.int .i64 0) := hRF.cell 1
      have u2 : wF.cell? ⟨R4, 2, none⟩ = some (.slice Av nv cv) := hRF.cell 2
      have hz := HZ.out
      have hz2 := HB2.out.size
      have hz4 := HZ2.out
      have hz3 := HB3.out.size
      have hnv := HNv.out
      obtain ⟨_, e2, e3, e4⟩ := HO3.out.vl.els
      have hth : thT g n ⟨(i : Int), 0, ks⟩ = ⟨(i : Int), 0, thL g n ks⟩ := by unfold thT; rw [if_neg (by omega), HTl.out, if_pos htv0]
      refine bodyPost_ret (v := .agg #[.int .i64 (i : Int), .int .i64 0, .slice Av nv cv]) (by simp [results, Try.results27, go_sem, u0, u1, u2]) rfl ?_
      rw [hth]
      exact ⟨Av, cv, by rw [hnv]; rfl, HI1.out, (show I64 0 from ⟨by decide, by decide⟩), e2, hcv, (e4.kept kF (fun b hb h => by have h1 := hb.1.resolve_left id; have h2 : w2.heap.size ≤ b := h1; omega)).keep (fun _ _ _ => rfl) (fun b hb => ⟨by have h1 := hb.1.resolve_left id; have h2 : w2.heap.size ≤ b := h1; omega, Nat.lt_of_lt_of_le hb.2 kF.size⟩), (bthen HB2.out HB3.out hz2).trans (kF.to_below (B := w.heap.size) (fun b hb => by omega) (by omega))⟩
    · have htr : (n : Int) ≤ tv ∧ tv ≤ (n : Int) + l := by rcases (tailI_rng (g := g) (n := n) (k := l)) with h | h <;> rw [← HTv.out] at h <;> omega
      obtain ⟨er, her⟩ : ∃ er, er = (g.rules.length : Int) + tv - n := ⟨_, rfl⟩
      have hwr1 : IntKind.i64.wrap ((g.rules.length : Int) + tv) = (g.rules.length : Int) + tv := IntWalk.i64_in _ (by omega)
      have hwr2 : IntKind.i64.wrap ((g.rules.length : Int) + tv - (n : Int)) = er := by rw [IntWalk.i64_in _ (by omega), her]
      have p3 : w2.cell? ⟨P, 3, none⟩ = some (.slice (some ⟨bq, oq, none⟩) g.rules.length c) := HP2.out.ptr.cell 3
      have p1 : w2.cell? ⟨P, 1, none⟩ = some (.int .i64 (n : Int)) := by have h := HP2.out.ptr.cell 1; simp only [hgn] at h; exact h
      have zP : P < w2.heap.size := HP2.out.ptr.lt
      have her9 : I64 er := ⟨by omega, by omega⟩
      have HEr := Lib.hid her
      clear her
      go_wp2_with fail
      refine wp_region_noPanic ?_
      refine stage_start (S := (fun w' => w'.cell? ⟨P, 3, none⟩ = some (.slice (some ⟨bq, oq, none⟩) g.rules.length c) ∧ w'.cell? ⟨P, 1, none⟩ = some (.int .i64 (n : Int)))) 16 (by kernel_rfl) ?hb (fun hHeld => ?bb)
      case hb => ((try dsimp only); go_keep)
      refine st_pure (i := 0) (v := ?vb0) rfl (by kernel_rfl) (by kernel_rfl) (by kernel_rfl) (by kernel_rfl) (fun _ _ _ h => h) (by rfl) ?yb0 (.inl (by assumption)) ?rb0
      case yb0 => (intro w; go_simp; try with_reducible rfl)
      try simp only [Act.put, List.setIfInBounds_toArray, List.set_cons_zero, List.set_cons_succ]
      refine st_pure (i := 1) (v := ?vb1) rfl (by kernel_rfl) (by kernel_rfl) (by kernel_rfl) (by kernel_rfl) (fun _ _ _ h => h) (by rfl) ?yb1 (.inl (by assumption)) ?rb1
      case yb1 => (intro w; go_simp; try with_reducible rfl)
      try simp only [Act.put, List.setIfInBounds_toArray, List.set_cons_zero, List.set_cons_succ]
      refine st_pure (i := 2) (v := ?vb2) rfl (by kernel_rfl) (by kernel_rfl) (by kernel_rfl) (by kernel_rfl) (fun _ _ _ h => h) (by rfl) ?yb2 (.inl (by assumption)) ?rb2
      case yb2 => (intro w; go_simp; try with_reducible rfl)
      try simp only [Act.put, List.setIfInBounds_toArray, List.set_cons_zero, List.set_cons_succ]
      refine st_pure (i := 3) (v := ?vb3) rfl (by kernel_rfl) (by kernel_rfl) (by kernel_rfl) (by kernel_rfl) (fun _ _ _ h => h) (by rfl) ?yb3 (.inl (by assumption)) ?rb3
      case yb3 => (intro w; go_simp; try with_reducible rfl)
      try simp only [Act.put, List.setIfInBounds_toArray, List.set_cons_zero, List.set_cons_succ]
      refine st_run (i := 4) (v := ?vb4) rfl (by kernel_rfl) (by kernel_rfl) (by kernel_rfl) (by kernel_rfl) (fun _ _ _ h => h) (by rfl) ?yb4 (by assumption) ?rb4
      case yb4 => (intro w hSw; (try dsimp only at hSw); go_simp; try with_reducible rfl)
      try simp only [Act.put, List.setIfInBounds_toArray, List.set_cons_zero, List.set_cons_succ]
      refine st_pure (i := 5) (v := ?vb5) rfl (by kernel_rfl) (by kernel_rfl) (by kernel_rfl) (by kernel_rfl) (fun _ _ _ h => h) (by rfl) ?yb5 (.inl (by assumption)) ?rb5
      case yb5 => (intro w; go_simp; try with_reducible rfl)
      try simp only [Act.put, List.setIfInBounds_toArray, List.set_cons_zero, List.set_cons_succ]
      refine st_pure (i := 6) (v := ?vb6) rfl (by kernel_rfl) (by kernel_rfl) (by kernel_rfl) (by kernel_rfl) (fun _ _ _ h => h) (by rfl) ?yb6 (.inl (by assumption)) ?rb6
      case yb6 => (intro w; go_simp; try with_reducible rfl)
      try simp only [Act.put, List.setIfInBounds_toArray, List.set_cons_zero, List.set_cons_succ]
      refine st_pure (i := 7) (v := ?vb7) rfl (by kernel_rfl) (by kernel_rfl) (by kernel_rfl) (by kernel_rfl) (fun _ _ _ h => h) (by rfl) ?yb7 (.inl (by assumption)) ?rb7
      case yb7 => (intro w; go_simp; try with_reducible rfl)
      try simp only [Act.put, List.setIfInBounds_toArray, List.set_cons_zero, List.set_cons_succ]
      refine st_pure (i := 8) (v := ?vb8) rfl (by kernel_rfl) (by kernel_rfl) (by kernel_rfl) (by kernel_rfl) (fun _ _ _ h => h) (by rfl) ?yb8 (.inl (by assumption)) ?rb8
      case yb8 => (intro w; go_simp; try with_reducible rfl)
      try simp only [Act.put, List.setIfInBounds_toArray, List.set_cons_zero, List.set_cons_succ]
      refine st_pure (i := 9) (v := ?vb9) rfl (by kernel_rfl) (by kernel_rfl) (by kernel_rfl) (by kernel_rfl) (fun _ _ _ h => h) (by rfl) ?yb9 (.inl (by assumption)) ?rb9
      case yb9 => (intro w; go_simp; try with_reducible rfl)
      try simp only [Act.put, List.setIfInBounds_toArray, List.set_cons_zero, List.set_cons_succ]
      refine st_pure (i := 10) (v := ?vb10) rfl (by kernel_rfl) (by kernel_rfl) (by kernel_rfl) (by kernel_rfl) (fun _ _ _ h => h) (by rfl) ?yb10 (.inl (by assumption)) ?rb10
      case yb10 => (intro w; go_simp; try with_reducible rfl)
      try simp only [Act.put, List.setIfInBounds_toArray, List.set_cons_zero, List.set_cons_succ]
      refine st_pure (i := 11) (v := ?vb11) rfl (by kernel_rfl) (by kernel_rfl) (by kernel_rfl) (by kernel_rfl) (fun _ _ _ h => h) (by rfl) ?yb11 (.inl (by assumption)) ?rb11
      case yb11 => (intro w; go_simp; try with_reducible rfl)
      try simp only [Act.put, List.setIfInBounds_toArray, List.set_cons_zero, List.set_cons_succ]
      refine st_run (i := 12) (v := ?vb12) rfl (by kernel_rfl) (by kernel_rfl) (by kernel_rfl) (by kernel_rfl) (fun _ _ _ h => h) (by rfl) ?yb12 (by assumption) ?rb12
      case yb12 => (intro w hSw; (try dsimp only at hSw); go_simp; try with_reducible rfl)
      try simp only [Act.put, List.setIfInBounds_toArray, List.set_cons_zero, List.set_cons_succ]
      refine st_pure (i := 13) (v := ?vb13) rfl (by kernel_rfl) (by kernel_rfl) (by kernel_rfl) (by kernel_rfl) (fun _ _ _ h => h) (by rfl) ?yb13 (.inl (by assumption)) ?rb13
      case yb13 => (intro w; go_simp; try with_reducible rfl)
      try simp only [Act.put, List.setIfInBounds_toArray, List.set_cons_zero, List.set_cons_succ]
      refine st_pure (i := 14) (v := ?vb14) rfl (by kernel_rfl) (by kernel_rfl) (by kernel_rfl) (by kernel_rfl) (fun _ _ _ h => h) (by rfl) ?yb14 (.inl (by assumption)) ?rb14
      case yb14 => (intro w; go_simp; try with_reducible rfl)
      try simp only [Act.put, List.setIfInBounds_toArray, List.set_cons_zero, List.set_cons_succ]
      refine st_one (i := 15) rfl (by kernel_rfl) (by rfl) (fun Kq hK => ?_)
      go_simp
      refine hK.out _ _ ?hb15 (fun hHeld => ?rb15)
      case hb15 => ((try dsimp only); go_keep)
      clear hK Kq
      try simp only [Act.put, List.setIfInBounds_toArray, List.set_cons_zero, List.set_cons_succ]
      refine st_late (i := 16) rfl (by kernel_rfl) (by rfl) (by kernel_rfl) (fun Kq hK => ?_)
      go_simp
      refine hK.out _ _ ?_
      clear hK Kq
      try simp only [Act.put, List.setIfInBounds_toArray, List.set_cons_zero, List.set_cons_succ]
      refine wpAnyD_done (by kernel_rfl) ?_ _
      refine NoPanic.normal ?_
      obtain ⟨E6, hE6⟩ : ∃ b, b = w2.heap.size := ⟨_, rfl⟩
      obtain ⟨w6, hw6⟩ : ∃ w6 : World, w6 = (w2.alloc (.cells #[.int .i64 er, .int .i64 0, .slice none 0 0] 47)).drew := ⟨_, rfl⟩
      rw [← hE6, ← hw6]
      have hb6 : Below w2.heap.size w2 w6 := by rw [hw6]; exact ((Below.refl _ _).alloc (Nat.le_refl _) _).drew
      have HB6 := Lib.hid (bthen HB2.out hb6 HB2.out.size)
      have HZ6 : Hid (E6 = w2.heap.size ∧ w6.heap.size = E6 + 1 ∧ w.heap.size + 2 ≤ E6) := Lib.hid ⟨hE6, by rw [hw6, hE6]; simp, by have := HB2.out.size; have := HZ.out; have := HT2.out.lt; have := HR2.out.lt; omega⟩
      have HL0 : Hid (LrL T3 E6 R4 S g n l w.heap.size ⟨(i : Int), 0, ks⟩ w6 w6 ⟨(i : Int), 0, ks⟩ ⟨er, 0, []⟩ B none d 0) := Lib.hid ⟨HT2.out.below hb6 HT2.out.lt, by rw [hw6, hE6]; exact (Blk'.new _ _ _).drew, HI1.out, (show I64 0 from ⟨by decide, by decide⟩), hld, hd, HE2.out.below hb6, her9, (show I64 0 from ⟨by decide, by decide⟩), Nat.le_refl _, by omega, fun h => absurd rfl h, by
          unfold vt
          rw [if_neg (by simp)]
          exact ⟨rfl, by omega, q, by rw [Int.toNat_natCast]; exact HQ.out.1, HLq.out, HQ.out.2.2.1⟩, by
          have h1 : thT g n ⟨(i : Int), 0, ks⟩ = thS g n ⟨(i : Int), 0, ks⟩ (endT g n tv) := by
            unfold thT thS
            rw [if_neg (by omega), HTl.out, if_neg (by omega)]
          rw [h1, HEr.out]
          rfl, Kept.refl _ _⟩
      have HP6 := Lib.hid (HP2.out.below hb6)
      have HR6 := Lib.hid (HR2.out.below hb6 HR2.out.lt)
      have HNd6 : Hid (nodesT ⟨(i : Int), 0, ks⟩ ≤ N + 1) := Lib.hid HNd.out
      clear hw6 hb6 hE6 p3 p1 zP hwr1 hwr2 her9 htr
      go_wp2_with fail
      go_loopg [] (N + 1) (fun gk wr => ∃ (x e : Tree) (Bx Ae : Option Addr) (dx de : Nat), LrL T3 E6 R4 S g n l w.heap.size ⟨(i : Int), 0, ks⟩ w6 wr x e Bx Ae dx de ∧ nodesT x ≤ gk ∧ nodesT x ≤ N + 1)
      case atStart => exact ⟨_, _, _, _, _, _, HL0.out, HNd6.out, HNd6.out⟩
      case round =>
        obtain ⟨wo, hwo⟩ : ∃ wo : World, wo = wr := ⟨_, rfl⟩
        subst hwo
        obtain ⟨x, e, Bx, Ae, dx, de, hL, hxk, hxN⟩ := hrel
        have hbo : Below w.heap.size w wo := HB6.out.trans (hL.kept.to_below (B := w.heap.size) (fun b hb => by have := HZ.out; have := HZ6.out; omega) HB6.out.size)
        have HBo := Lib.hid hbo
        have HPo := Lib.hid (HP.out.below (hbo : Below w.heap.size w wo))
        have HRo := Lib.hid (HR6.out.kept hL.kept (by have := HZ.out; have := HZ6.out; omega))
        have HXk := Lib.hid (And.intro hxk hxN)
        obtain ⟨xr, xt, xk⟩ := x
        have hvx := hL.vx
        unfold vt at hvx
        rw [if_neg (by simp)] at hvx
        obtain ⟨hxt, hxr0, ⟨ql, qr⟩, hqx, hqxl, hxks⟩ := hvx
        subst hxt
        dsimp only at hqxl hxks
        subst hqxl
        obtain ⟨j, rfl⟩ : ∃ j : Nat, xr = (j : Int) := ⟨xr.toNat, by omega⟩
        rw [Int.toNat_natCast] at hqx
        have hjl : j < g.rules.length := (List.getElem?_eq_some_iff.1 hqx).1
        obtain ⟨bq', oq', Ax, cx, eA', hSqx, hbqx, hqxi, hrcx, hcqx, hEqx, hx0, hx1⟩ := HPo.out.els.rule hqx
        injection eA' with eA'
        injection eA' with e5 e6 _
        subst e5; subst e6
        dsimp only at hrcx hEqx hx0 hx1
        have hrax : ruleAt g (j : Int) = ⟨(l : Int), qr⟩ := by unfold ruleAt; rw [Int.toNat_natCast, List.getD_eq_getElem?_getD, hqx]; rfl
        have HRax := Lib.hid hrax
        have HL := Lib.hid hL
        have HEqx := Lib.hid hEqx
        have HKs := Lib.hid (And.intro hxks (HV.out.rules _ (List.mem_of_getElem? hqx)).2.2.1)
        have HQx := Lib.hid (And.intro hrcx hcqx)
        have p3 : wo.cell? ⟨P, 3, none⟩ = some (.slice (some ⟨bq, oq, none⟩) g.rules.length c) := HPo.out.ptr.cell 3
        have t0 : wo.cell? ⟨T3, 0, none⟩ = some (.int .i64 (j : Int)) := hL.tb.cell 0
        have zT : T3 < wo.heap.size := hL.tb.lt
        have zP : P < wo.heap.size := HPo.out.ptr.lt
        have hj9 : (j : Int) < (g.rules.length : Int) := by omega
        have hj0 : (0 : Int) ≤ (j : Int) := by omega
        clear hL hqx hxks hEqx hrax hrcx hcqx hqxi hSqx hbo hxk hxN
        go_wp2_with fail
        refine wp_region_noPanic ?_
        refine wp_region_held_drew (S := (fun w' => w'.cell? ⟨P, 3, none⟩ = some (.slice (some ⟨bq, oq, none⟩) g.rules.length c) ∧ w'.cell? ⟨T3, 0, none⟩ = some (.int .i64 (j : Int)) ∧ w'.cell? ⟨bq, oq + j * 2, none⟩ = some (.int .i64 (l : Int)) ∧ w'.cell? ⟨bq, oq + j * 2 + 1, none⟩ = some (.slice Ax qr.length cx))) (by kernel_rfl) ?hc (fun hHeld => ?bc)
        case hc => ((try dsimp only); go_keep)
        refine take_run (i := 0) (v := ?vc0) rfl (by kernel_rfl) (by kernel_rfl) (by kernel_rfl) (fun _ _ _ h => h) (by rfl) ?yc0 (by assumption) ?rc0
        case yc0 => (intro w hSw; (try dsimp only at hSw); go_simp; try with_reducible rfl)
        try simp only [Act.put, List.setIfInBounds_toArray, List.set_cons_zero, List.set_cons_succ]
        refine take_run (i := 1) (v := ?vc1) rfl (by kernel_rfl) (by kernel_rfl) (by kernel_rfl) (fun _ _ _ h => h) (by rfl) ?yc1 (by assumption) ?rc1
        case yc1 => (intro w hSw; (try dsimp only at hSw); go_simp; try with_reducible rfl)
        try simp only [Act.put, List.setIfInBounds_toArray, List.set_cons_zero, List.set_cons_succ]
        refine take_run (i := 2) (v := ?vc2) rfl (by kernel_rfl) (by kernel_rfl) (by kernel_rfl) (fun _ _ _ h => h) (by rfl) ?yc2 (by assumption) ?rc2
        case yc2 => (intro w hSw; (try dsimp only at hSw); go_simp; try with_reducible rfl)
        try simp only [Act.put, List.setIfInBounds_toArray, List.set_cons_zero, List.set_cons_succ]
        refine take_run (i := 3) (v := ?vc3) rfl (by kernel_rfl) (by kernel_rfl) (by kernel_rfl) (fun _ _ _ h => h) (by rfl) ?yc3 (by assumption) ?rc3
        case yc3 => (intro w hSw; (try dsimp only at hSw); go_simp; try with_reducible rfl)
        try simp only [Act.put, List.setIfInBounds_toArray, List.set_cons_zero, List.set_cons_succ]
        refine take_run (i := 4) (v := ?vc4) rfl (by kernel_rfl) (by kernel_rfl) (by kernel_rfl) (fun _ _ _ h => h) (by rfl) ?yc4 (by assumption) ?rc4
        case yc4 => (intro w hSw; (try dsimp only at hSw); go_simp; try with_reducible rfl)
        try simp only [Act.put, List.setIfInBounds_toArray, List.set_cons_zero, List.set_cons_succ]
        refine take_run (i := 5) (v := ?vc5) rfl (by kernel_rfl) (by kernel_rfl) (by kernel_rfl) (fun _ _ _ h => h) (by rfl) ?yc5 (by assumption) ?rc5
        case yc5 => (intro w hSw; (try dsimp only at hSw); go_simp; try with_reducible rfl)
        try simp only [Act.put, List.setIfInBounds_toArray, List.set_cons_zero, List.set_cons_succ]
        refine take_run (i := 6) (v := ?vc6) rfl (by kernel_rfl) (by kernel_rfl) (by kernel_rfl) (fun _ _ _ h => h) (by rfl) ?yc6 (by assumption) ?rc6
        case yc6 => (intro w hSw; (try dsimp only at hSw); go_simp; try with_reducible rfl)
        try simp only [Act.put, List.setIfInBounds_toArray, List.set_cons_zero, List.set_cons_succ]
        refine take_run (i := 7) (v := ?vc7) rfl (by kernel_rfl) (by kernel_rfl) (by kernel_rfl) (fun _ _ _ h => h) (by rfl) ?yc7 (by assumption) ?rc7
        case yc7 => (intro w hSw; (try dsimp only at hSw); go_simp; try with_reducible rfl)
        try simp only [Act.put, List.setIfInBounds_toArray, List.set_cons_zero, List.set_cons_succ]
        refine take_run (i := 8) (v := ?vc8) rfl (by kernel_rfl) (by kernel_rfl) (by kernel_rfl) (fun _ _ _ h => h) (by rfl) ?yc8 (by assumption) ?rc8
        case yc8 => (intro w hSw; (try dsimp only at hSw); go_simp; try with_reducible rfl)
        try simp only [Act.put, List.setIfInBounds_toArray, List.set_cons_zero, List.set_cons_succ]
        refine take_call (i := 9) rfl (by kernel_rfl) (by rfl) (fun Kq hK => ?_)
        go_simp
        go_at_call 48
        refine (recursive_any ⟨(l : Int), qr⟩ Ax cx Sg wo.drew HQx.out.1 HQx.out.2 (HEqx.out.below (Below.refl _ _).drew)).mono ?_
        rintro e' w7 ⟨rfl, hb7⟩
        replace hb7 : Below wo.heap.size wo w7 := bundrew hb7
        have HB7 := Lib.hid hb7
        have p3b : w7.cell? ⟨P, 3, none⟩ = some (.slice (some ⟨bq, oq, none⟩) g.rules.length c) := (hb7.cell (p := ⟨P, 3, none⟩) zP).trans p3
        have t0b : w7.cell? ⟨T3, 0, none⟩ = some (.int .i64 (j : Int)) := (hb7.cell (p := ⟨T3, 0, none⟩) zT).trans t0
        have x0b : w7.cell? ⟨bq, oq + j * 2, none⟩ = some (.int .i64 (l : Int)) := (hb7.cell (p := ⟨bq, oq + j * 2, none⟩) hbqx).trans hx0
        have x1b : w7.cell? ⟨bq, oq + j * 2 + 1, none⟩ = some (.slice Ax qr.length cx) := (hb7.cell (p := ⟨bq, oq + j * 2 + 1, none⟩) hbqx).trans hx1
        obtain ⟨rb, hrb⟩ : ∃ rb, rb = recB ⟨(l : Int), qr⟩ := ⟨_, rfl⟩
        rw [← hrb]
        have HRb := Lib.hid hrb
        clear hrb hb7
        refine hK.out _ _ ?hc9 (fun hHeld => ?rc9)
        case hc9 => ((try dsimp only); go_keep)
        clear hK Kq
        try simp only [Act.put, List.setIfInBounds_toArray, List.set_cons_zero, List.set_cons_succ]
        refine wpAnyH_done (by kernel_rfl) ?_ _
        refine NoPanic.normal ?_
        have HL7 := Lib.hid (HL.out.below HB7.out)
        have HRo7 := Lib.hid (HRo.out.below HB7.out HRo.out.lt)
        have HP7 := Lib.hid (HPo.out.below HB7.out)
        have HBw7 := Lib.hid (bthen HBo.out HB7.out HBo.out.size)
        clear p3b t0b x0b x1b p3 t0 zT zP hbqx hx0 hx1
        cases rb
        · obtain ⟨hks7, hqr4⟩ := HKs.out
          have hl4 : xk.length ≤ 4 := by rw [vts_same xk qr hks7]; exact hqr4
          have HIx : Hid (∀ k ∈ xk, ThOk P gT g n (some ⟨bq, oq, none⟩) A1 A2 c c1 c2 Sg Sp k) := Lib.hid (fun k hk => by
            obtain ⟨s', _, h2⟩ := vts_mem xk qr hks7 k hk
            have h3 := nodes_mem hk
            have h4 := HXk.out.2
            simp only [nodesT] at h4
            exact HIh.out k s' (by omega) h2)
          have hxd : xk.length ≤ dx := HL7.out.x3
          have HEx : Hid (Els w7 S xk Bx) := Lib.hid HL7.out.xe
          have t0 : w7.cell? ⟨T3, 0, none⟩ = some (.int .i64 (j : Int)) := HL7.out.tb.cell 0
          have t2 : w7.cell? ⟨T3, 2, none⟩ = some (.slice Bx xk.length dx) := HL7.out.tb.cell 2
          obtain ⟨er, et, ek⟩ := e
          have e0 : w7.cell? ⟨E6, 0, none⟩ = some (.int .i64 er) := HL7.out.eb.cell 0
          have e1 : w7.cell? ⟨E6, 1, none⟩ = some (.int .i64 et) := HL7.out.eb.cell 1
          obtain ⟨el, hel⟩ : ∃ el, el = ek.length := ⟨_, rfl⟩
          have HEl := Lib.hid hel
          have e2 : w7.cell? ⟨E6, 2, none⟩ = some (.slice Ae el de) := by rw [hel]; exact HL7.out.eb.cell 2
          have zT : T3 < w7.heap.size := HL7.out.tb.lt
          have zE : E6 < w7.heap.size := HL7.out.eb.lt
          clear hks7 hqr4 hel
          go_wp2_with fail
          refine wp_region_noPanic ?_
          refine stage_start (S := (fun w' => w'.cell? ⟨T3, 0, none⟩ = some (.int .i64 (j : Int)) ∧ w'.cell? ⟨T3, 2, none⟩ = some (.slice Bx xk.length dx) ∧ w'.cell? ⟨E6, 0, none⟩ = some (.int .i64 er) ∧ w'.cell? ⟨E6, 1, none⟩ = some (.int .i64 et) ∧ w'.cell? ⟨E6, 2, none⟩ = some (.slice Ae el de))) 10 (by kernel_rfl) ?hh (fun hHeld => ?bh)
          case hh => ((try dsimp only); go_keep)
          refine st_pure (i := 0) (v := ?vh0) rfl (by kernel_rfl) (by kernel_rfl) (by kernel_rfl) (by kernel_rfl) (fun _ _ _ h => h) (by rfl) ?yh0 (.inl (by assumption)) ?rh0
          case yh0 => (intro w; go_simp; try with_reducible rfl)
          try simp only [Act.put, List.setIfInBounds_toArray, List.set_cons_zero, List.set_cons_succ]
          refine st_run (i := 1) (v := ?vh1) rfl (by kernel_rfl) (by kernel_rfl) (by kernel_rfl) (by kernel_rfl) (fun _ _ _ h => h) (by rfl) ?yh1 (by assumption) ?rh1
          case yh1 => (intro w hSw; (try dsimp only at hSw); go_simp; try with_reducible rfl)
          try simp only [Act.put, List.setIfInBounds_toArray, List.set_cons_zero, List.set_cons_succ]
          refine st_pure (i := 2) (v := ?vh2) rfl (by kernel_rfl) (by kernel_rfl) (by kernel_rfl) (by kernel_rfl) (fun _ _ _ h => h) (by rfl) ?yh2 (.inl (by assumption)) ?rh2
          case yh2 => (intro w; go_simp; try with_reducible rfl)
          try simp only [Act.put, List.setIfInBounds_toArray, List.set_cons_zero, List.set_cons_succ]
          refine st_pure (i := 3) (v := ?vh3) rfl (by kernel_rfl) (by kernel_rfl) (by kernel_rfl) (by kernel_rfl) (fun _ _ _ h => h) (by rfl) ?yh3 (.inl (by assumption)) ?rh3
          case yh3 => (intro w; go_simp; try with_reducible rfl)
          try simp only [Act.put, List.setIfInBounds_toArray, List.set_cons_zero, List.set_cons_succ]
          refine st_run (i := 4) (v := ?vh4) rfl (by kernel_rfl) (by kernel_rfl) (by kernel_rfl) (by kernel_rfl) (fun _ _ _ h => h) (by rfl) ?yh4 (by assumption) ?rh4
          case yh4 => (intro w hSw; (try dsimp only at hSw); go_simp; try with_reducible rfl)
          try simp only [Act.put, List.setIfInBounds_toArray, List.set_cons_zero, List.set_cons_succ]
          refine st_run (i := 6) (v := ?vh6) rfl (by kernel_rfl) (by kernel_rfl) (by kernel_rfl) (by kernel_rfl) (fun _ _ _ h => h) (by rfl) ?yh6 (by assumption) ?rh6
          case yh6 => (intro w hSw; (try dsimp only at hSw); go_simp; try with_reducible rfl)
          try simp only [Act.put, List.setIfInBounds_toArray, List.set_cons_zero, List.set_cons_succ]
          refine st_two (i := 5) (j := 7) rfl rfl (by kernel_rfl) (by rfl) (by rfl) (fun Kq hK => ?oneh5) (fun Kq hK => ?twoh5)
          case oneh5 =>
            go_simp
            go_at_call 55
            refine (kidsTh_any xk HIx.out w7.drew Bx dx S (HP7.out.below (Below.refl w7.heap.size w7).drew) (by omega) (hxd) (HEx.out.below (Below.refl w7.heap.size w7).drew) (fun b hb => by have h1 := HS.out b hb; have h2 := HBw7.out.size; have h3 := ((Below.refl w7.heap.size w7).drew).size; exact Nat.lt_of_lt_of_le h1 (Nat.le_trans h2 h3))).mono ?_
            rintro e' w8a ⟨v, rfl, hOw8a, hbw8a⟩
            replace hbw8a : Below w7.heap.size w7 w8a := bundrew hbw8a
            obtain ⟨Av, cv, ev, hlv, hcv, _⟩ := hOw8a.form
            obtain ⟨nv, hnv⟩ : ∃ nv, nv = (thL g n xk).length := ⟨_, rfl⟩
            rw [← hnv] at ev
            subst ev
            clear hnv hlv hcv
            have t0a : w8a.cell? ⟨T3, 0, none⟩ = some (.int .i64 (j : Int)) := (hbw8a.cell (p := ⟨T3, 0, none⟩) zT).trans t0
            have t2a : w8a.cell? ⟨T3, 2, none⟩ = some (.slice Bx xk.length dx) := (hbw8a.cell (p := ⟨T3, 2, none⟩) zT).trans t2
            have e0a : w8a.cell? ⟨E6, 0, none⟩ = some (.int .i64 er) := (hbw8a.cell (p := ⟨E6, 0, none⟩) zE).trans e0
            have e1a : w8a.cell? ⟨E6, 1, none⟩ = some (.int .i64 et) := (hbw8a.cell (p := ⟨E6, 1, none⟩) zE).trans e1
            have e2a : w8a.cell? ⟨E6, 2, none⟩ = some (.slice Ae el de) := (hbw8a.cell (p := ⟨E6, 2, none⟩) zE).trans e2
            have zTa : T3 < w8a.heap.size := Nat.lt_of_lt_of_le zT hbw8a.size
            have zEa : E6 < w8a.heap.size := Nat.lt_of_lt_of_le zE hbw8a.size
            refine hK.out _ _ ?hhp5 (fun hHeld => ?rhp5)
            case hhp5 => ((try dsimp only); go_keep)
            clear hK Kq
            try simp only [Act.put, List.setIfInBounds_toArray, List.set_cons_zero, List.set_cons_succ]
            refine st_one (i := 7) rfl (by kernel_rfl) (by rfl) (fun Kq hK => ?_)
            go_simp
            obtain ⟨w8b, hw8b⟩ : ∃ w : World, w = (w8a.alloc (.cells #[.int .i64 er, .int .i64 et, .slice Ae el de] 47)) := ⟨_, rfl⟩
            have hbw8b : Below w8a.heap.size w8a w8b := by rw [hw8b]; exact ((Below.refl _ _).alloc (Nat.le_refl _) _)
            have hatw8b : At w8b w8a.heap.size 0 [.int .i64 er, .int .i64 et, .slice Ae el de] := by rw [hw8b]; exact At.new w8a [.int .i64 er, .int .i64 et, .slice Ae el de] 47
            have hzw8b : w8b.heap.size = w8a.heap.size + 1 := by rw [hw8b]; simp
            rw [← hw8b]
            clear hw8b
            have t0b : w8b.cell? ⟨T3, 0, none⟩ = some (.int .i64 (j : Int)) := (hbw8b.cell (p := ⟨T3, 0, none⟩) zTa).trans t0a
            have t2b : w8b.cell? ⟨T3, 2, none⟩ = some (.slice Bx xk.length dx) := (hbw8b.cell (p := ⟨T3, 2, none⟩) zTa).trans t2a
            have e0b : w8b.cell? ⟨E6, 0, none⟩ = some (.int .i64 er) := (hbw8b.cell (p := ⟨E6, 0, none⟩) zEa).trans e0a
            have e1b : w8b.cell? ⟨E6, 1, none⟩ = some (.int .i64 et) := (hbw8b.cell (p := ⟨E6, 1, none⟩) zEa).trans e1a
            have e2b : w8b.cell? ⟨E6, 2, none⟩ = some (.slice Ae el de) := (hbw8b.cell (p := ⟨E6, 2, none⟩) zEa).trans e2a
            refine hK.out _ _ ?hhp7 (fun hHeld => ?rhp7)
            case hhp7 => ((try dsimp only); go_keep)
            clear hK Kq
            try simp only [Act.put, List.setIfInBounds_toArray, List.set_cons_zero, List.set_cons_succ]
            refine st_one (i := 8) rfl (by kernel_rfl) (by rfl) (fun Kq hK => ?_)
            have hb8 : Below w7.heap.size w7 w8b := bthen hbw8a hbw8b hbw8a.size
            have hO8 : Own w8b (fun b => w.heap.size ≤ b ∧ b < w7.heap.size ∧ b ≠ T3 ∧ b ≠ E6 ∧ b ≠ R4) w7.heap.size 47 (.slice Av nv cv) (thL g n xk) := ((hOw8a.below hbw8b (Nat.le_refl _)).base (by have := hbw8a.size; first | exact Nat.le_refl _ | omega)).anyS _
            have hown8 : ∀ g', (Value.slice Av nv cv).ownBlock = some g' → w7.heap.size ≤ g' ∧ g' < w8b.heap.size := fun g' hg' => hO8.block g' hg'
            have hat8 : At w8b w8a.heap.size 0 [.int .i64 er, .int .i64 et, .slice Ae el de] := hatw8b
            have hrd8 : Dat.rd w8b (OwnT (fun b => w.heap.size ≤ b ∧ b < w7.heap.size ∧ b ≠ T3 ∧ b ≠ E6 ∧ b ≠ R4) w7.heap.size (.slice Av nv cv) w8b) (⟨er, et, ek⟩ : Tree) [.int .i64 er, .int .i64 et, .slice Ae el de] := rd_tree.2 ⟨_, rfl, HL7.out.e1, HL7.out.e2, by rw [HEl.out]; exact Vl.of_slice rfl HL7.out.e3 HL7.out.e4 ((HL7.out.ee.below hb8).keep (fun _ _ _ => rfl) (fun b hb => ⟨.inl hb, fun h => by have := (hown8 b h).1; have := hb.2.1; omega, Nat.lt_of_lt_of_le hb.2.1 hb8.size⟩))⟩
            refine wp_own1 _ _ _ elemTree rfl rfl hO8 (⟨er, et, ek⟩ : Tree) [.int .i64 er, .int .i64 et, .slice Ae el de] rfl hat8 hrd8 (by rw [thL_map, List.length_map]; omega) (by rw [thL_map, List.length_map]; omega) hb8.size ?_
            intro v' w9 hO9 hg9 _
            have hb9 : Below w7.heap.size w7 w9 := bgrown hb8 hg9 hO8 (Nat.le_refl _) hb8.size
            obtain ⟨Aw, cw, ev, hlw, hcw, _⟩ := hO9.form
            obtain ⟨nw, hnw⟩ : ∃ nw, nw = (thL g n xk ++ [(⟨er, et, ek⟩ : Tree)]).length := ⟨_, rfl⟩
            have HNw := Lib.hid hnw
            rw [← hnw] at ev hlw
            subst ev
            have HO9 := Lib.hid hO9
            have HB9 := Lib.hid hb9
            have HLw := Lib.hid (And.intro hlw hcw)
            have HEb9 := Lib.hid (HRo7.out.below hb9 HRo7.out.lt)
            have fe0 := HEb9.out.frozen 0
            have fe1 := HEb9.out.frozen 1
            have fe2 := HEb9.out.frozen 2
            have zE9 := HEb9.out.lt
            have q0 := HEb9.out.cell 0
            have q1 := HEb9.out.cell 1
            have q2 := HEb9.out.cell 2
            simp at q0 q1 q2
            have t09 : w9.cell? ⟨T3, 0, none⟩ = some (.int .i64 (j : Int)) := (hb9.cell (p := ⟨T3, 0, none⟩) zT).trans t0
            have t29 : w9.cell? ⟨T3, 2, none⟩ = some (.slice Bx xk.length dx) := (hb9.cell (p := ⟨T3, 2, none⟩) zT).trans t2
            have e09 : w9.cell? ⟨E6, 0, none⟩ = some (.int .i64 er) := (hb9.cell (p := ⟨E6, 0, none⟩) zE).trans e0
            have e19 : w9.cell? ⟨E6, 1, none⟩ = some (.int .i64 et) := (hb9.cell (p := ⟨E6, 1, none⟩) zE).trans e1
            have e29 : w9.cell? ⟨E6, 2, none⟩ = some (.slice Ae el de) := (hb9.cell (p := ⟨E6, 2, none⟩) zE).trans e2
            clear hO9 hg9 hnw hlw hcw hb8 hO8 hown8 hat8 hrd8
            clear hOw8a hatw8b hbw8a hbw8b hzw8b
            refine hK.out _ _ ?hhp8 (fun hHeld => ?rhp8)
            case hhp8 => ((try dsimp only); go_keep)
            clear hK Kq
            try simp only [Act.put, List.setIfInBounds_toArray, List.set_cons_zero, List.set_cons_succ]
            refine st_pure (i := 9) (v := ?vhp9) rfl (by kernel_rfl) (by kernel_rfl) (by kernel_rfl) (by kernel_rfl) (fun _ _ _ h => h) (by rfl) ?yhp9 (.inl (by assumption)) ?rhp9
            case yhp9 => (intro w; go_simp; try with_reducible rfl)
            try simp only [Act.put, List.setIfInBounds_toArray, List.set_cons_zero, List.set_cons_succ]
            refine st_late (i := 10) rfl (by kernel_rfl) (by rfl) (by kernel_rfl) (fun Kq hK => ?_)
            go_simp
            refine hK.out _ _ ?_
            clear hK Kq
            try simp only [Act.put, List.setIfInBounds_toArray, List.set_cons_zero, List.set_cons_succ]
            refine wpAnyD_done (by kernel_rfl) ?_ _
            refine NoPanic.normal ?_
            go_wp2_with fail
            generalize hwF : World.setCell _ _ _ = wF
            obtain ⟨hRF, kF⟩ := set3 HEb9.out (.int .i64 (j : Int)) (.int .i64 0) (.slice Aw nw cw)
            rw [hwF] at hRF kF
            have u0 : wF.cell? ⟨R4, 0, none⟩ = some (.int .i64 (j : Int)) := hRF.cell 0
            have u1 : wF.cell? ⟨R4, 1, none⟩ = some (.int .i64 0) := hRF.cell 1
            have u2 : wF.cell? ⟨R4, 2, none⟩ = some (.slice Aw nw cw) := hRF.cell 2
            have hz := HZ.out
            have hnw := HNw.out
            have h7 := HBw7.out.size
            have hR7 := HRo7.out.lt
            obtain ⟨_, f2, f3, f4⟩ := HO9.out.vl.els
            have hth : thT g n ⟨(i : Int), 0, ks⟩ = ⟨(j : Int), 0, thL g n xk ++ [(⟨er, et, ek⟩ : Tree)]⟩ := by
              rw [HL7.out.th, thS_eq, HRax.out, ← HRb.out, if_neg (by simp)]
            refine bodyPost_ret (v := .agg #[.int .i64 (j : Int), .int .i64 0, .slice Aw nw cw]) (by simp [results, Try.results27, go_sem, u0, u1, u2]) rfl ?_
            rw [hth]
            exact ⟨Aw, cw, by rw [hnw]; rfl, HL7.out.x1, (show I64 0 from ⟨by decide, by decide⟩), f2, f3, (f4.kept kF (fun b hb h => by rcases hb.1 with h1 | h1; exact h1.2.2.2.2 h; omega)).keep (fun _ _ _ => rfl) (fun b hb => ⟨by rcases hb.1 with h1 | h1; exact h1.1; omega, Nat.lt_of_lt_of_le hb.2 kF.size⟩), (bthen HBw7.out HB9.out h7).trans (kF.to_below (B := w.heap.size) (fun b hb => by omega) (by have := HB9.out.size; omega))⟩
          case twoh5 =>
            go_simp
            obtain ⟨w8a, hw8a⟩ : ∃ w : World, w = (w7.alloc (.cells #[.int .i64 er, .int .i64 et, .slice Ae el de] 47)).drew := ⟨_, rfl⟩
            have hbw8a : Below w7.heap.size w7 w8a := by rw [hw8a]; exact ((Below.refl _ _).alloc (Nat.le_refl _) _).drew
            have hatw8a : At w8a w7.heap.size 0 [.int .i64 er, .int .i64 et, .slice Ae el de] := by rw [hw8a]; exact At.new w7 [.int .i64 er, .int .i64 et, .slice Ae el de] 47
            have hzw8a : w8a.heap.size = w7.heap.size + 1 := by rw [hw8a]; simp
            rw [← hw8a]
            clear hw8a
            have t0a : w8a.cell? ⟨T3, 0, none⟩ = some (.int .i64 (j : Int)) := (hbw8a.cell (p := ⟨T3, 0, none⟩) zT).trans t0
            have t2a : w8a.cell? ⟨T3, 2, none⟩ = some (.slice Bx xk.length dx) := (hbw8a.cell (p := ⟨T3, 2, none⟩) zT).trans t2
            have e0a : w8a.cell? ⟨E6, 0, none⟩ = some (.int .i64 er) := (hbw8a.cell (p := ⟨E6, 0, none⟩) zE).trans e0
            have e1a : w8a.cell? ⟨E6, 1, none⟩ = some (.int .i64 et) := (hbw8a.cell (p := ⟨E6, 1, none⟩) zE).trans e1
            have e2a : w8a.cell? ⟨E6, 2, none⟩ = some (.slice Ae el de) := (hbw8a.cell (p := ⟨E6, 2, none⟩) zE).trans e2
            have zTa : T3 < w8a.heap.size := Nat.lt_of_lt_of_le zT hbw8a.size
            have zEa : E6 < w8a.heap.size := Nat.lt_of_lt_of_le zE hbw8a.size
            refine hK.out _ _ ?hhq7 (fun hHeld => ?rhq7)
            case hhq7 => ((try dsimp only); go_keep)
            clear hK Kq
            try simp only [Act.put, List.setIfInBounds_toArray, List.set_cons_zero, List.set_cons_succ]
            refine st_one (i := 5) rfl (by kernel_rfl) (by rfl) (fun Kq hK => ?_)
            go_simp
            go_at_call 55
            refine (kidsTh_any xk HIx.out w8a Bx dx S (HP7.out.below hbw8a) (by omega) (hxd) (HEx.out.below hbw8a) (fun b hb => by have h1 := HS.out b hb; have h2 := HBw7.out.size; have h3 := (hbw8a).size; exact Nat.lt_of_lt_of_le h1 (Nat.le_trans h2 h3))).mono ?_
            rintro e' w8b ⟨v, rfl, hOw8b, hbw8b⟩
            obtain ⟨Av, cv, ev, hlv, hcv, _⟩ := hOw8b.form
            obtain ⟨nv, hnv⟩ : ∃ nv, nv = (thL g n xk).length := ⟨_, rfl⟩
            rw [← hnv] at ev
            subst ev
            clear hnv hlv hcv
            have t0b : w8b.cell? ⟨T3, 0, none⟩ = some (.int .i64 (j : Int)) := (hbw8b.cell (p := ⟨T3, 0, none⟩) zTa).trans t0a
            have t2b : w8b.cell? ⟨T3, 2, none⟩ = some (.slice Bx xk.length dx) := (hbw8b.cell (p := ⟨T3, 2, none⟩) zTa).trans t2a
            have e0b : w8b.cell? ⟨E6, 0, none⟩ = some (.int .i64 er) := (hbw8b.cell (p := ⟨E6, 0, none⟩) zEa).trans e0a
            have e1b : w8b.cell? ⟨E6, 1, none⟩ = some (.int .i64 et) := (hbw8b.cell (p := ⟨E6, 1, none⟩) zEa).trans e1a
            have e2b : w8b.cell? ⟨E6, 2, none⟩ = some (.slice Ae el de) := (hbw8b.cell (p := ⟨E6, 2, none⟩) zEa).trans e2a
            refine hK.out _ _ ?hhq5 (fun hHeld => ?rhq5)
            case hhq5 => ((try dsimp only); go_keep)
            clear hK Kq
            try simp only [Act.put, List.setIfInBounds_toArray, List.set_cons_zero, List.set_cons_succ]
            refine st_one (i := 8) rfl (by kernel_rfl) (by rfl) (fun Kq hK => ?_)
            have hb8 : Below w7.heap.size w7 w8b := bthen hbw8a hbw8b hbw8a.size
            have hO8 : Own w8b (fun b => w.heap.size ≤ b ∧ b < w7.heap.size ∧ b ≠ T3 ∧ b ≠ E6 ∧ b ≠ R4) w7.heap.size 47 (.slice Av nv cv) (thL g n xk) := ((hOw8b).base (by have := hbw8a.size; first | exact Nat.le_refl _ | omega)).anyS _
            have hown8 : ∀ g', (Value.slice Av nv cv).ownBlock = some g' → w7.heap.size ≤ g' ∧ g' < w8b.heap.size := fun g' hg' => hO8.block g' hg'
            have hat8 : At w8b w7.heap.size 0 [.int .i64 er, .int .i64 et, .slice Ae el de] := (fun k y hk => (hbw8b.cell (p := ⟨w7.heap.size, 0 + k, none⟩) (by show w7.heap.size < w8a.heap.size; omega)).trans (hatw8a k y hk))
            have hrd8 : Dat.rd w8b (OwnT (fun b => w.heap.size ≤ b ∧ b < w7.heap.size ∧ b ≠ T3 ∧ b ≠ E6 ∧ b ≠ R4) w7.heap.size (.slice Av nv cv) w8b) (⟨er, et, ek⟩ : Tree) [.int .i64 er, .int .i64 et, .slice Ae el de] := rd_tree.2 ⟨_, rfl, HL7.out.e1, HL7.out.e2, by rw [HEl.out]; exact Vl.of_slice rfl HL7.out.e3 HL7.out.e4 ((HL7.out.ee.below hb8).keep (fun _ _ _ => rfl) (fun b hb => ⟨.inl hb, fun h => by have := (hown8 b h).1; have := hb.2.1; omega, Nat.lt_of_lt_of_le hb.2.1 hb8.size⟩))⟩
            refine wp_own1 _ _ _ elemTree rfl rfl hO8 (⟨er, et, ek⟩ : Tree) [.int .i64 er, .int .i64 et, .slice Ae el de] rfl hat8 hrd8 (by rw [thL_map, List.length_map]; omega) (by rw [thL_map, List.length_map]; omega) hb8.size ?_
            intro v' w9 hO9 hg9 _
            have hb9 : Below w7.heap.size w7 w9 := bgrown hb8 hg9 hO8 (Nat.le_refl _) hb8.size
            obtain ⟨Aw, cw, ev, hlw, hcw, _⟩ := hO9.form
            obtain ⟨nw, hnw⟩ : ∃ nw, nw = (thL g n xk ++ [(⟨er, et, ek⟩ : Tree)]).length := ⟨_, rfl⟩
            have HNw := Lib.hid hnw
            rw [← hnw] at ev hlw
            subst ev
            have HO9 := Lib.hid hO9
            have HB9 := Lib.hid hb9
            have HLw := Lib.hid (And.intro hlw hcw)
            have HEb9 := Lib.hid (HRo7.out.below hb9 HRo7.out.lt)
            have fe0 := HEb9.out.frozen 0
            have fe1 := HEb9.out.frozen 1
            have fe2 := HEb9.out.frozen 2
            have zE9 := HEb9.out.lt
            have q0 := HEb9.out.cell 0
            have q1 := HEb9.out.cell 1
            have q2 := HEb9.out.cell 2
            simp at q0 q1 q2
            have t09 : w9.cell? ⟨T3, 0, none⟩ = some (.int .i64 (j : Int)) := (hb9.cell (p := ⟨T3, 0, none⟩) zT).trans t0
            have t29 : w9.cell? ⟨T3, 2, none⟩ = some (.slice Bx xk.length dx) := (hb9.cell (p := ⟨T3, 2, none⟩) zT).trans t2
            have e09 : w9.cell? ⟨E6, 0, none⟩ = some (.int .i64 er) := (hb9.cell (p := ⟨E6, 0, none⟩) zE).trans e0
            have e19 : w9.cell? ⟨E6, 1, none⟩ = some (.int .i64 et) := (hb9.cell (p := ⟨E6, 1, none⟩) zE).trans e1
            have e29 : w9.cell? ⟨E6, 2, none⟩ = some (.slice Ae el de) := (hb9.cell (p := ⟨E6, 2, none⟩) zE).trans e2
            clear hO9 hg9 hnw hlw hcw hb8 hO8 hown8 hat8 hrd8
            clear hOw8b hatw8a hbw8a hbw8b hzw8a
            refine hK.out _ _ ?hhq8 (fun hHeld => ?rhq8)
            case hhq8 => ((try dsimp only); go_keep)
            clear hK Kq
            try simp only [Act.put, List.setIfInBounds_toArray, List.set_cons_zero, List.set_cons_succ]
            refine st_pure (i := 9) (v := ?vhq9) rfl (by kernel_rfl) (by kernel_rfl) (by kernel_rfl) (by kernel_rfl) (fun _ _ _ h => h) (by rfl) ?yhq9 (.inl (by assumption)) ?rhq9
            case yhq9 => (intro w; go_simp; try with_reducible rfl)
            try simp only [Act.put, List.setIfInBounds_toArray, List.set_cons_zero, List.set_cons_succ]
            refine st_late (i := 10) rfl (by kernel_rfl) (by rfl) (by kernel_rfl) (fun Kq hK => ?_)
            go_simp
            refine hK.out _ _ ?_
            clear hK Kq
            try simp only [Act.put, List.setIfInBounds_toArray, List.set_cons_zero, List.set_cons_succ]
            refine wpAnyD_done (by kernel_rfl) ?_ _
            refine NoPanic.normal ?_
            go_wp2_with fail
            generalize hwF : World.setCell _ _ _ = wF
            obtain ⟨hRF, kF⟩ := set3 HEb9.out (.int .i64 (j : Int)) (.int .i64 0) (.slice Aw nw cw)
            rw [hwF] at hRF kF
            have u0 : wF.cell? ⟨R4, 0, none⟩ = some (.int .i64 (j : Int)) := hRF.cell 0
            have u1 : wF.cell? ⟨R4, 1, none⟩ = some (.int .i64 0) := hRF.cell 1
            have u2 : wF.cell? ⟨R4, 2, none⟩ = some (.slice Aw nw cw) := hRF.cell 2
            have hz := HZ.out
            have hnw := HNw.out
            have h7 := HBw7.out.size
            have hR7 := HRo7.out.lt
            obtain ⟨_, f2, f3, f4⟩ := HO9.out.vl.els
            have hth : thT g n ⟨(i : Int), 0, ks⟩ = ⟨(j : Int), 0, thL g n xk ++ [(⟨er, et, ek⟩ : Tree)]⟩ := by
              rw [HL7.out.th, thS_eq, HRax.out, ← HRb.out, if_neg (by simp)]
            refine bodyPost_ret (v := .agg #[.int .i64 (j : Int), .int .i64 0, .slice Aw nw cw]) (by simp [results, Try.results27, go_sem, u0, u1, u2]) rfl ?_
            rw [hth]
            exact ⟨Aw, cw, by rw [hnw]; rfl, HL7.out.x1, (show I64 0 from ⟨by decide, by decide⟩), f2, f3, (f4.kept kF (fun b hb h => by rcases hb.1 with h1 | h1; exact h1.2.2.2.2 h; omega)).keep (fun _ _ _ => rfl) (fun b hb => ⟨by rcases hb.1 with h1 | h1; exact h1.1; omega, Nat.lt_of_lt_of_le hb.2 kF.size⟩), (bthen HBw7.out HB9.out h7).trans (kF.to_below (B := w.heap.size) (fun b hb => by omega) (by have := HB9.out.size; omega))⟩
        · have hr0 : qr[0]? = some ⟨false, (l : Int)⟩ := by have h := HRb.out; unfold recB at h; simpa using h.symm
          obtain ⟨hks7, hqr4⟩ := HKs.out
          obtain ⟨qr', rfl⟩ : ∃ qr', qr = ⟨false, (l : Int)⟩ :: qr' := by
            cases qr with
            | nil => simp at hr0
            | cons a b => simp at hr0; exact ⟨b, by rw [hr0]⟩
          obtain ⟨k0, rest, rfl⟩ : ∃ k0 rest, xk = k0 :: rest := by
            cases xk with
            | nil => simp [vts] at hks7
            | cons a b => exact ⟨a, b, rfl⟩
          unfold vts at hks7
          obtain ⟨hvk0, hvr⟩ := hks7
          have HVk := Lib.hid (And.intro hvk0 hvr)
          have hl4 : rest.length ≤ 3 := by have h := vts_same rest qr' hvr; simp at hqr4; omega
          have hx3 := HL7.out.x3
          simp only [Tree.kids, List.length_cons] at hx3
          have hx4 := HL7.out.x4
          obtain ⟨bx, ox, Ak, ck, eBx, hSbx, hbbx, ik1, ik2, hkl, hck, hEk0, k0c, k1c, k2c⟩ := HL7.out.xe.tree (k := 0) (x := k0) rfl
          have HEr : Hid (Els w7 S rest (some ⟨bx, ox + 3, none⟩)) := Lib.hid (by have h := HL7.out.xe; rw [eBx] at h; exact h.dropS 1)
          have t0 : w7.cell? ⟨T3, 0, none⟩ = some (.int .i64 (j : Int)) := HL7.out.tb.cell 0
          have t2 : w7.cell? ⟨T3, 2, none⟩ = some (.slice (some ⟨bx, ox, none⟩) (rest.length + 1) dx) := by have h := HL7.out.tb.cell 2; rw [eBx] at h; exact h
          obtain ⟨er, et, ek⟩ := e
          have e0 : w7.cell? ⟨E6, 0, none⟩ = some (.int .i64 er) := HL7.out.eb.cell 0
          have e1 : w7.cell? ⟨E6, 1, none⟩ = some (.int .i64 et) := HL7.out.eb.cell 1
          obtain ⟨el, hel⟩ : ∃ el, el = ek.length := ⟨_, rfl⟩
          have HEl := Lib.hid hel
          have e2 : w7.cell? ⟨E6, 2, none⟩ = some (.slice Ae el de) := by rw [hel]; exact HL7.out.eb.cell 2
          have zT : T3 < w7.heap.size := HL7.out.tb.lt
          have zE : E6 < w7.heap.size := HL7.out.eb.lt
          have hc1 : (1 : Int) ≤ (rest.length : Int) + 1 := by omega
          have hc2 : (rest.length : Int) + 1 ≤ (dx : Int) := by omega
          have hc3 : (1 : Int) ≤ (dx : Int) := by omega
          have HIr : Hid (∀ k ∈ rest, ThOk P gT g n (some ⟨bq, oq, none⟩) A1 A2 c c1 c2 Sg Sp k) := Lib.hid (fun k hk => by
            obtain ⟨s', _, h2⟩ := vts_mem rest qr' HVk.out.2 k hk
            have h3 := nodes_mem hk
            have h4 := HXk.out.2
            simp only [nodesT, nodesL] at h4
            exact HIh.out k s' (by omega) h2)
          have EBX := Lib.hid eBx
          rw [show ox + 0 * 3 = ox from by omega] at k0c k1c k2c
          obtain ⟨kl, hkle⟩ : ∃ kl, kl = k0.kids.length := ⟨_, rfl⟩
          have HKl := Lib.hid hkle
          rw [← hkle] at k2c
          have HK0 := Lib.hid (And.intro ik1 (And.intro ik2 (And.intro (show kl ≤ ck by rw [hkle]; exact hkl) (And.intro hck (And.intro hSbx hEk0)))))
          clear hvk0 hvr ik1 ik2 hkl hck hSbx hEk0 eBx hel hr0 hqr4 hkle
          by_cases hd1 : dx = 1
          · have hrn : rest = [] := List.eq_nil_of_length_eq_zero (by omega)
            subst hrn
            subst hd1
            have t2 : w7.cell? ⟨T3, 2, none⟩ = some (.slice (some ⟨bx, ox, none⟩) 1 1) := t2
            have hd1' : True := trivial
            go_wp2_with fail
            refine wp_region_noPanic ?_
            refine stage_start (S := (fun w' => w'.cell? ⟨T3, 0, none⟩ = some (.int .i64 (j : Int)) ∧ w'.cell? ⟨T3, 2, none⟩ = some (.slice (some ⟨bx, ox, none⟩) 1 1) ∧ w'.cell? ⟨E6, 0, none⟩ = some (.int .i64 er) ∧ w'.cell? ⟨E6, 1, none⟩ = some (.int .i64 et) ∧ w'.cell? ⟨E6, 2, none⟩ = some (.slice Ae el de))) 11 (by kernel_rfl) ?hf (fun hHeld => ?bf)
            case hf => ((try dsimp only); go_keep)
            refine st_pure (i := 0) (v := ?vf0) rfl (by kernel_rfl) (by kernel_rfl) (by kernel_rfl) (by kernel_rfl) (fun _ _ _ h => h) (by rfl) ?yf0 (.inl (by assumption)) ?rf0
            case yf0 => (intro w; go_simp; try with_reducible rfl)
            try simp only [Act.put, List.setIfInBounds_toArray, List.set_cons_zero, List.set_cons_succ]
            refine st_run (i := 1) (v := ?vf1) rfl (by kernel_rfl) (by kernel_rfl) (by kernel_rfl) (by kernel_rfl) (fun _ _ _ h => h) (by rfl) ?yf1 (by assumption) ?rf1
            case yf1 => (intro w hSw; (try dsimp only at hSw); go_simp; try with_reducible rfl)
            try simp only [Act.put, List.setIfInBounds_toArray, List.set_cons_zero, List.set_cons_succ]
            refine st_pure (i := 2) (v := ?vf2) rfl (by kernel_rfl) (by kernel_rfl) (by kernel_rfl) (by kernel_rfl) (fun _ _ _ h => h) (by rfl) ?yf2 (.inl (by assumption)) ?rf2
            case yf2 => (intro w; go_simp; try with_reducible rfl)
            try simp only [Act.put, List.setIfInBounds_toArray, List.set_cons_zero, List.set_cons_succ]
            refine st_pure (i := 3) (v := ?vf3) rfl (by kernel_rfl) (by kernel_rfl) (by kernel_rfl) (by kernel_rfl) (fun _ _ _ h => h) (by rfl) ?yf3 (.inl (by assumption)) ?rf3
            case yf3 => (intro w; go_simp; try with_reducible rfl)
            try simp only [Act.put, List.setIfInBounds_toArray, List.set_cons_zero, List.set_cons_succ]
            refine st_run (i := 4) (v := ?vf4) rfl (by kernel_rfl) (by kernel_rfl) (by kernel_rfl) (by kernel_rfl) (fun _ _ _ h => h) (by rfl) ?yf4 (by assumption) ?rf4
            case yf4 => (intro w hSw; (try dsimp only at hSw); go_simp; try with_reducible rfl)
            try simp only [Act.put, List.setIfInBounds_toArray, List.set_cons_zero, List.set_cons_succ]
            refine st_pure (i := 5) (v := ?vf5) rfl (by kernel_rfl) (by kernel_rfl) (by kernel_rfl) (by kernel_rfl) (fun _ _ _ h => h) (by rfl) ?yf5 (.inl (by assumption)) ?rf5
            case yf5 => (intro w; go_simp; try with_reducible rfl)
            try simp only [Act.put, List.setIfInBounds_toArray, List.set_cons_zero, List.set_cons_succ]
            refine st_run (i := 7) (v := ?vf7) rfl (by kernel_rfl) (by kernel_rfl) (by kernel_rfl) (by kernel_rfl) (fun _ _ _ h => h) (by rfl) ?yf7 (by assumption) ?rf7
            case yf7 => (intro w hSw; (try dsimp only at hSw); go_simp; try with_reducible rfl)
            try simp only [Act.put, List.setIfInBounds_toArray, List.set_cons_zero, List.set_cons_succ]
            refine st_two (i := 6) (j := 8) rfl rfl (by kernel_rfl) (by rfl) (by rfl) (fun Kq hK => ?onef6) (fun Kq hK => ?twof6)
            case onef6 =>
              go_simp
              go_at_call 55
              refine (kidsTh_any [] HIr.out w7.drew _ _ S (HP7.out.below (Below.refl w7.heap.size w7).drew) (by simp) (by simp) Els.nilS (fun b hb => by have h1 := HS.out b hb; have h2 := HBw7.out.size; have h3 := ((Below.refl w7.heap.size w7).drew).size; exact Nat.lt_of_lt_of_le h1 (Nat.le_trans h2 h3))).mono ?_
              rintro e' w8a ⟨v, rfl, hOw8a, hbw8a⟩
              replace hbw8a : Below w7.heap.size w7 w8a := bundrew hbw8a
              obtain ⟨Av, cv, ev, hlv, hcv, _⟩ := hOw8a.form
              obtain ⟨nv, hnv⟩ : ∃ nv, nv = (thL g n []).length := ⟨_, rfl⟩
              rw [← hnv] at ev
              subst ev
              clear hnv hlv hcv
              have t0a : w8a.cell? ⟨T3, 0, none⟩ = some (.int .i64 (j : Int)) := (hbw8a.cell (p := ⟨T3, 0, none⟩) zT).trans t0
              have t2a : w8a.cell? ⟨T3, 2, none⟩ = some (.slice (some ⟨bx, ox, none⟩) 1 1) := (hbw8a.cell (p := ⟨T3, 2, none⟩) zT).trans t2
              have e0a : w8a.cell? ⟨E6, 0, none⟩ = some (.int .i64 er) := (hbw8a.cell (p := ⟨E6, 0, none⟩) zE).trans e0
              have e1a : w8a.cell? ⟨E6, 1, none⟩ = some (.int .i64 et) := (hbw8a.cell (p := ⟨E6, 1, none⟩) zE).trans e1
              have e2a : w8a.cell? ⟨E6, 2, none⟩ = some (.slice Ae el de) := (hbw8a.cell (p := ⟨E6, 2, none⟩) zE).trans e2
              have zTa : T3 < w8a.heap.size := Nat.lt_of_lt_of_le zT hbw8a.size
              have zEa : E6 < w8a.heap.size := Nat.lt_of_lt_of_le zE hbw8a.size
              refine hK.out _ _ ?hfp6 (fun hHeld => ?rfp6)
              case hfp6 => ((try dsimp only); go_keep)
              clear hK Kq
              try simp only [Act.put, List.setIfInBounds_toArray, List.set_cons_zero, List.set_cons_succ]
              refine st_one (i := 8) rfl (by kernel_rfl) (by rfl) (fun Kq hK => ?_)
              go_simp
              obtain ⟨w8b, hw8b⟩ : ∃ w : World, w = (w8a.alloc (.cells #[.int .i64 er, .int .i64 et, .slice Ae el de] 47)) := ⟨_, rfl⟩
              have hbw8b : Below w8a.heap.size w8a w8b := by rw [hw8b]; exact ((Below.refl _ _).alloc (Nat.le_refl _) _)
              have hatw8b : At w8b w8a.heap.size 0 [.int .i64 er, .int .i64 et, .slice Ae el de] := by rw [hw8b]; exact At.new w8a [.int .i64 er, .int .i64 et, .slice Ae el de] 47
              have hzw8b : w8b.heap.size = w8a.heap.size + 1 := by rw [hw8b]; simp
              rw [← hw8b]
              clear hw8b
              have t0b : w8b.cell? ⟨T3, 0, none⟩ = some (.int .i64 (j : Int)) := (hbw8b.cell (p := ⟨T3, 0, none⟩) zTa).trans t0a
              have t2b : w8b.cell? ⟨T3, 2, none⟩ = some (.slice (some ⟨bx, ox, none⟩) 1 1) := (hbw8b.cell (p := ⟨T3, 2, none⟩) zTa).trans t2a
              have e0b : w8b.cell? ⟨E6, 0, none⟩ = some (.int .i64 er) := (hbw8b.cell (p := ⟨E6, 0, none⟩) zEa).trans e0a
              have e1b : w8b.cell? ⟨E6, 1, none⟩ = some (.int .i64 et) := (hbw8b.cell (p := ⟨E6, 1, none⟩) zEa).trans e1a
              have e2b : w8b.cell? ⟨E6, 2, none⟩ = some (.slice Ae el de) := (hbw8b.cell (p := ⟨E6, 2, none⟩) zEa).trans e2a
              refine hK.out _ _ ?hfp8 (fun hHeld => ?rfp8)
              case hfp8 => ((try dsimp only); go_keep)
              clear hK Kq
              try simp only [Act.put, List.setIfInBounds_toArray, List.set_cons_zero, List.set_cons_succ]
              refine st_one (i := 9) rfl (by kernel_rfl) (by rfl) (fun Kq hK => ?_)
              have hb8 : Below w7.heap.size w7 w8b := bthen hbw8a hbw8b hbw8a.size
              have hO8 : Own w8b (fun b => w.heap.size ≤ b ∧ b < w7.heap.size ∧ b ≠ T3 ∧ b ≠ E6 ∧ b ≠ R4) w7.heap.size 47 (.slice Av nv cv) (thL g n []) := ((hOw8a.below hbw8b (Nat.le_refl _)).base (by have := hbw8a.size; first | exact Nat.le_refl _ | omega)).anyS _
              have hown8 : ∀ g', (Value.slice Av nv cv).ownBlock = some g' → w7.heap.size ≤ g' ∧ g' < w8b.heap.size := fun g' hg' => hO8.block g' hg'
              have hat8 : At w8b w8a.heap.size 0 [.int .i64 er, .int .i64 et, .slice Ae el de] := hatw8b
              have hrd8 : Dat.rd w8b (OwnT (fun b => w.heap.size ≤ b ∧ b < w7.heap.size ∧ b ≠ T3 ∧ b ≠ E6 ∧ b ≠ R4) w7.heap.size (.slice Av nv cv) w8b) (⟨er, et, ek⟩ : Tree) [.int .i64 er, .int .i64 et, .slice Ae el de] := rd_tree.2 ⟨_, rfl, HL7.out.e1, HL7.out.e2, by rw [HEl.out]; exact Vl.of_slice rfl HL7.out.e3 HL7.out.e4 ((HL7.out.ee.below hb8).keep (fun _ _ _ => rfl) (fun b hb => ⟨.inl hb, fun h => by have := (hown8 b h).1; have := hb.2.1; omega, Nat.lt_of_lt_of_le hb.2.1 hb8.size⟩))⟩
              refine wp_own1 _ _ _ elemTree rfl rfl hO8 (⟨er, et, ek⟩ : Tree) [.int .i64 er, .int .i64 et, .slice Ae el de] rfl hat8 hrd8 (by rw [thL_map, List.length_map]; omega) (by rw [thL_map, List.length_map]; omega) hb8.size ?_
              intro v' w9 hO9 hg9 _
              have hb9 : Below w7.heap.size w7 w9 := bgrown hb8 hg9 hO8 (Nat.le_refl _) hb8.size
              obtain ⟨Aw, cw, ev, hlw, hcw, _⟩ := hO9.form
              obtain ⟨nw, hnw⟩ : ∃ nw, nw = (thL g n [] ++ [(⟨er, et, ek⟩ : Tree)]).length := ⟨_, rfl⟩
              have HNw := Lib.hid hnw
              rw [← hnw] at ev hlw
              subst ev
              have HO9 := Lib.hid hO9
              have HB9 := Lib.hid hb9
              have HLw := Lib.hid (And.intro hlw hcw)
              have HEb9 := Lib.hid (HL7.out.eb.below hb9 HL7.out.eb.lt)
              have fe0 := HEb9.out.frozen 0
              have fe1 := HEb9.out.frozen 1
              have fe2 := HEb9.out.frozen 2
              have zE9 := HEb9.out.lt
              have t09 : w9.cell? ⟨T3, 0, none⟩ = some (.int .i64 (j : Int)) := (hb9.cell (p := ⟨T3, 0, none⟩) zT).trans t0
              have t29 : w9.cell? ⟨T3, 2, none⟩ = some (.slice (some ⟨bx, ox, none⟩) 1 1) := (hb9.cell (p := ⟨T3, 2, none⟩) zT).trans t2
              have e09 : w9.cell? ⟨E6, 0, none⟩ = some (.int .i64 er) := (hb9.cell (p := ⟨E6, 0, none⟩) zE).trans e0
              have e19 : w9.cell? ⟨E6, 1, none⟩ = some (.int .i64 et) := (hb9.cell (p := ⟨E6, 1, none⟩) zE).trans e1
              have e29 : w9.cell? ⟨E6, 2, none⟩ = some (.slice Ae el de) := (hb9.cell (p := ⟨E6, 2, none⟩) zE).trans e2
              clear hO9 hg9 hnw hlw hcw hb8 hO8 hown8 hat8 hrd8
              clear hOw8a hatw8b hbw8a hbw8b hzw8b
              refine hK.out _ _ ?hfp9 (fun hHeld => ?rfp9)
              case hfp9 => ((try dsimp only); go_keep)
              clear hK Kq
              try simp only [Act.put, List.setIfInBounds_toArray, List.set_cons_zero, List.set_cons_succ]
              refine st_pure (i := 10) (v := ?vfp10) rfl (by kernel_rfl) (by kernel_rfl) (by kernel_rfl) (by kernel_rfl) (fun _ _ _ h => h) (by rfl) ?yfp10 (.inl (by assumption)) ?rfp10
              case yfp10 => (intro w; go_simp; try with_reducible rfl)
              try simp only [Act.put, List.setIfInBounds_toArray, List.set_cons_zero, List.set_cons_succ]
              refine st_late (i := 11) rfl (by kernel_rfl) (by rfl) (by kernel_rfl) (fun Kq hK => ?_)
              go_simp
              refine hK.out _ _ ?_
              clear hK Kq
              try simp only [Act.put, List.setIfInBounds_toArray, List.set_cons_zero, List.set_cons_succ]
              refine wpAnyD_done (by kernel_rfl) ?_ _
              refine NoPanic.normal ?_
              go_upto_region 9 with (fail)
              generalize hwX : World.setCell _ _ _ = wX
              obtain ⟨hEX, kX⟩ := set3 HEb9.out (.int .i64 (j : Int)) (.int .i64 0) (.slice Aw nw cw)
              rw [hwX] at hEX kX
              have HEX := Lib.hid hEX
              have hz6 := HZ6.out
              have hzz := HZ.out
              have hTX : Blk' wX T3 47 #[.int .i64 (j : Int), .int .i64 0, .slice (some ⟨bx, ox, none⟩) 1 1] := by
                have h := (HL7.out.tb.below HB9.out HL7.out.tb.lt).kept kX (show ¬ T3 = E6 by omega)
                rw [EBX.out] at h
                exact h
              have HKX : Hid (Kept (fun b => b = E6) w7 wX) := Lib.hid ((Kept.of_below (fun b => b = E6) HB9.out).trans kX)
              have hbbE : ¬ bx = E6 := fun h => by have h1 := HS.out bx HK0.out.2.2.2.2.1; omega
              have hbbT : ¬ bx = T3 := fun h => by have h1 := HS.out bx HK0.out.2.2.2.2.1; omega
              have k0x : wX.cell? ⟨bx, ox, none⟩ = some (.int .i64 k0.rule) := (HKX.out.cell (p := ⟨bx, ox, none⟩) hbbx hbbE).trans k0c
              have k1x : wX.cell? ⟨bx, ox + 1, none⟩ = some (.int .i64 k0.term) := (HKX.out.cell (p := ⟨bx, ox + 1, none⟩) hbbx hbbE).trans k1c
              have k2x : wX.cell? ⟨bx, ox + 1 + 1, none⟩ = some (.slice Ak kl ck) := (HKX.out.cell (p := ⟨bx, ox + 1 + 1, none⟩) hbbx hbbE).trans k2c
              have zbx : bx < wX.heap.size := Nat.lt_of_lt_of_le hbbx HKX.out.size
              have x0 := hTX.cell 0
              have x1 := hTX.cell 1
              have x2 : wX.cell? ⟨T3, 2, none⟩ = some (.slice (some ⟨bx, ox, none⟩) 1 1) := hTX.cell 2
              have fx0 := hTX.frozen 0
              have fx1 := hTX.frozen 1
              have fx2 := hTX.frozen 2
              have zTX := hTX.lt
              simp at x0 x1
              have hc4 : True := trivial
              have HTX := Lib.hid hTX
              have HOX : Hid (Els wX (fun b => w.heap.size ≤ b ∧ b < wX.heap.size ∧ b ≠ T3 ∧ b ≠ E6 ∧ b ≠ R4) (thL g n [] ++ [(⟨er, et, ek⟩ : Tree)]) Aw) := Lib.hid (((HO9.out.vl.els).2.2.2.kept kX (fun b hb h => by rcases hb.1 with h1 | h1; exact h1.2.2.2.1 h; have h2 := HL7.out.eb.lt; omega)).keep (fun _ _ _ => rfl) (fun b hb => by
                have h3 := Nat.lt_of_lt_of_le hb.2 kX.size
                have h4 := HL7.out.eb.lt
                have h5 := HL7.out.tb.lt
                have h6 := HRo7.out.lt
                have h7 := HBw7.out.size
                rcases hb.1 with h1 | h1
                · exact ⟨h1.1, h3, h1.2.2⟩
                · exact ⟨by omega, h3, by omega, by omega, by omega⟩))
              clear t0 t2 e0 e1 e2 zT zE hwX hEX kX hTX hz6 hzz k0c k1c k2c hbbE
              clear t09 t29 e09 e19 e29 fe0 fe1 fe2 zE9
              go_wp2_with fail
              generalize hwY : World.setCell _ _ _ = wY
              obtain ⟨hTY, kY⟩ := set3 HTX.out (.int .i64 k0.rule) (.int .i64 k0.term) (.slice Ak kl ck)
              rw [hwY] at hTY kY
              have hz6 := HZ6.out
              have hzz := HZ.out
              have hLY : LrL T3 E6 R4 S g n l w.heap.size ⟨(i : Int), 0, ks⟩ w6 wY k0 ⟨(j : Int), 0, thL g n [] ++ [(⟨er, et, ek⟩ : Tree)]⟩ Ak Aw ck cw := ⟨by rw [← HKl.out]; exact hTY, by
                  have h := HEX.out.kept kY (show ¬ E6 = T3 by omega)
                  rw [HNw.out] at h
                  exact h, HK0.out.1, HK0.out.2.1, by rw [← HKl.out]; exact HK0.out.2.2.1, HK0.out.2.2.2.1, ((HK0.out.2.2.2.2.2.kept HKX.out (fun b hb h => by have h1 := HS.out b hb; omega)).kept kY (fun b hb h => by have h1 := HS.out b hb; omega)), HL7.out.x1, (show I64 0 from ⟨by decide, by decide⟩), (by show (thL g n [] ++ [(⟨er, et, ek⟩ : Tree)]).length ≤ cw; rw [← HNw.out]; exact HLw.out.1), HLw.out.2, (HOX.out.kept kY (fun b hb h => hb.2.2.1 h)).keep (fun _ _ _ => rfl) (fun b hb => ⟨hb.1, Nat.lt_of_lt_of_le hb.2.1 kY.size, hb.2.2⟩), HVk.out.1, by
                  have h := HL7.out.th
                  rw [h, thS_eq, HRax.out, ← HRb.out, if_pos rfl, thH_cons], ((HL7.out.kept.trans (HKX.out.mono (fun b _ h => .inr h))).trans (kY.mono (fun b _ h => .inl h)))⟩
              have HLY := Lib.hid hLY
              have HMs : Hid (nodesT k0 < gk ∧ nodesT k0 ≤ N + 1) := Lib.hid (by have h := HXk.out; simp only [nodesT, nodesL] at h; omega)
              clear hLY hTY kY hz6 hzz
              go_roundg (nodesT k0)
              case rel => exact ⟨_, _, _, _, _, _, HLY.out, Nat.le_refl _, HMs.out.2⟩
              case measure => exact HMs.out.1
            case twof6 =>
              go_simp
              obtain ⟨w8a, hw8a⟩ : ∃ w : World, w = (w7.alloc (.cells #[.int .i64 er, .int .i64 et, .slice Ae el de] 47)).drew := ⟨_, rfl⟩
              have hbw8a : Below w7.heap.size w7 w8a := by rw [hw8a]; exact ((Below.refl _ _).alloc (Nat.le_refl _) _).drew
              have hatw8a : At w8a w7.heap.size 0 [.int .i64 er, .int .i64 et, .slice Ae el de] := by rw [hw8a]; exact At.new w7 [.int .i64 er, .int .i64 et, .slice Ae el de] 47
              have hzw8a : w8a.heap.size = w7.heap.size + 1 := by rw [hw8a]; simp
              rw [← hw8a]
              clear hw8a
              have t0a : w8a.cell? ⟨T3, 0, none⟩ = some (.int .i64 (j : Int)) := (hbw8a.cell (p := ⟨T3, 0, none⟩) zT).trans t0
              have t2a : w8a.cell? ⟨T3, 2, none⟩ = some (.slice (some ⟨bx, ox, none⟩) 1 1) := (hbw8a.cell (p := ⟨T3, 2, none⟩) zT).trans t2
              have e0a : w8a.cell? ⟨E6, 0, none⟩ = some (.int .i64 er) := (hbw8a.cell (p := ⟨E6, 0, none⟩) zE).trans e0
              have e1a : w8a.cell? ⟨E6, 1, none⟩ = some (.int .i64 et) := (hbw8a.cell (p := ⟨E6, 1, none⟩) zE).trans e1
              have e2a : w8a.cell? ⟨E6, 2, none⟩ = some (.slice Ae el de) := (hbw8a.cell (p := ⟨E6, 2, none⟩) zE).trans e2
              have zTa : T3 < w8a.heap.size := Nat.lt_of_lt_of_le zT hbw8a.size
              have zEa : E6 < w8a.heap.size := Nat.lt_of_lt_of_le zE hbw8a.size
              refine hK.out _ _ ?hfq8 (fun hHeld => ?rfq8)
              case hfq8 => ((try dsimp only); go_keep)
              clear hK Kq
              try simp only [Act.put, List.setIfInBounds_toArray, List.set_cons_zero, List.set_cons_succ]
              refine st_one (i := 6) rfl (by kernel_rfl) (by rfl) (fun Kq hK => ?_)
              go_simp
              go_at_call 55
              refine (kidsTh_any [] HIr.out w8a _ _ S (HP7.out.below hbw8a) (by simp) (by simp) Els.nilS (fun b hb => by have h1 := HS.out b hb; have h2 := HBw7.out.size; have h3 := (hbw8a).size; exact Nat.lt_of_lt_of_le h1 (Nat.le_trans h2 h3))).mono ?_
              rintro e' w8b ⟨v, rfl, hOw8b, hbw8b⟩
              obtain ⟨Av, cv, ev, hlv, hcv, _⟩ := hOw8b.form
              obtain ⟨nv, hnv⟩ : ∃ nv, nv = (thL g n []).length := ⟨_, rfl⟩
              rw [← hnv] at ev
              subst ev
              clear hnv hlv hcv
              have t0b : w8b.cell? ⟨T3, 0, none⟩ = some (.int .i64 (j : Int)) := (hbw8b.cell (p := ⟨T3, 0, none⟩) zTa).trans t0a
              have t2b : w8b.cell? ⟨T3, 2, none⟩ = some (.slice (some ⟨bx, ox, none⟩) 1 1) := (hbw8b.cell (p := ⟨T3, 2, none⟩) zTa).trans t2a
              have e0b : w8b.cell? ⟨E6, 0, none⟩ = some (.int .i64 er) := (hbw8b.cell (p := ⟨E6, 0, none⟩) zEa).trans e0a
              have e1b : w8b.cell? ⟨E6, 1, none⟩ = some (.int .i64 et) := (hbw8b.cell (p := ⟨E6, 1, none⟩) zEa).trans e1a
              have e2b : w8b.cell? ⟨E6, 2, none⟩ = some (.slice Ae el de) := (hbw8b.cell (p := ⟨E6, 2, none⟩) zEa).trans e2a
              refine hK.out _ _ ?hfq6 (fun hHeld => ?rfq6)
              case hfq6 => ((try dsimp only); go_keep)
              clear hK Kq
              try simp only [Act.put, List.setIfInBounds_toArray, List.set_cons_zero, List.set_cons_succ]
              refine st_one (i := 9) rfl (by kernel_rfl) (by rfl) (fun Kq hK => ?_)
              have hb8 : Below w7.heap.size w7 w8b := bthen hbw8a hbw8b hbw8a.size
              have hO8 : Own w8b (fun b => w.heap.size ≤ b ∧ b < w7.heap.size ∧ b ≠ T3 ∧ b ≠ E6 ∧ b ≠ R4) w7.heap.size 47 (.slice Av nv cv) (thL g n []) := ((hOw8b).base (by have := hbw8a.size; first | exact Nat.le_refl _ | omega)).anyS _
              have hown8 : ∀ g', (Value.slice Av nv cv).ownBlock = some g' → w7.heap.size ≤ g' ∧ g' < w8b.heap.size := fun g' hg' => hO8.block g' hg'
              have hat8 : At w8b w7.heap.size 0 [.int .i64 er, .int .i64 et, .slice Ae el de] := (fun k y hk => (hbw8b.cell (p := ⟨w7.heap.size, 0 + k, none⟩) (by show w7.heap.size < w8a.heap.size; omega)).trans (hatw8a k y hk))
              have hrd8 : Dat.rd w8b (OwnT (fun b => w.heap.size ≤ b ∧ b < w7.heap.size ∧ b ≠ T3 ∧ b ≠ E6 ∧ b ≠ R4) w7.heap.size (.slice Av nv cv) w8b) (⟨er, et, ek⟩ : Tree) [.int .i64 er, .int .i64 et, .slice Ae el de] := rd_tree.2 ⟨_, rfl, HL7.out.e1, HL7.out.e2, by rw [HEl.out]; exact Vl.of_slice rfl HL7.out.e3 HL7.out.e4 ((HL7.out.ee.below hb8).keep (fun _ _ _ => rfl) (fun b hb => ⟨.inl hb, fun h => by have := (hown8 b h).1; have := hb.2.1; omega, Nat.lt_of_lt_of_le hb.2.1 hb8.size⟩))⟩
              refine wp_own1 _ _ _ elemTree rfl rfl hO8 (⟨er, et, ek⟩ : Tree) [.int .i64 er, .int .i64 et, .slice Ae el de] rfl hat8 hrd8 (by rw [thL_map, List.length_map]; omega) (by rw [thL_map, List.length_map]; omega) hb8.size ?_
              intro v' w9 hO9 hg9 _
              have hb9 : Below w7.heap.size w7 w9 := bgrown hb8 hg9 hO8 (Nat.le_refl _) hb8.size
              obtain ⟨Aw, cw, ev, hlw, hcw, _⟩ := hO9.form
              obtain ⟨nw, hnw⟩ : ∃ nw, nw = (thL g n [] ++ [(⟨er, et, ek⟩ : Tree)]).length := ⟨_, rfl⟩
              have HNw := Lib.hid hnw
              rw [← hnw] at ev hlw
              subst ev
              have HO9 := Lib.hid hO9
              have HB9 := Lib.hid hb9
              have HLw := Lib.hid (And.intro hlw hcw)
              have HEb9 := Lib.hid (HL7.out.eb.below hb9 HL7.out.eb.lt)
              have fe0 := HEb9.out.frozen 0
              have fe1 := HEb9.out.frozen 1
              have fe2 := HEb9.out.frozen 2
              have zE9 := HEb9.out.lt
              have t09 : w9.cell? ⟨T3, 0, none⟩ = some (.int .i64 (j : Int)) := (hb9.cell (p := ⟨T3, 0, none⟩) zT).trans t0
              have t29 : w9.cell? ⟨T3, 2, none⟩ = some (.slice (some ⟨bx, ox, none⟩) 1 1) := (hb9.cell (p := ⟨T3, 2, none⟩) zT).trans t2
              have e09 : w9.cell? ⟨E6, 0, none⟩ = some (.int .i64 er) := (hb9.cell (p := ⟨E6, 0, none⟩) zE).trans e0
              have e19 : w9.cell? ⟨E6, 1, none⟩ = some (.int .i64 et) := (hb9.cell (p := ⟨E6, 1, none⟩) zE).trans e1
              have e29 : w9.cell? ⟨E6, 2, none⟩ = some (.slice Ae el de) := (hb9.cell (p := ⟨E6, 2, none⟩) zE).trans e2
              clear hO9 hg9 hnw hlw hcw hb8 hO8 hown8 hat8 hrd8
              clear hOw8b hatw8a hbw8a hbw8b hzw8a
              refine hK.out _ _ ?hfq9 (fun hHeld => ?rfq9)
              case hfq9 => ((try dsimp only); go_keep)
              clear hK Kq
              try simp only [Act.put, List.setIfInBounds_toArray, List.set_cons_zero, List.set_cons_succ]
              refine st_pure (i := 10) (v := ?vfq10) rfl (by kernel_rfl) (by kernel_rfl) (by kernel_rfl) (by kernel_rfl) (fun _ _ _ h => h) (by rfl) ?yfq10 (.inl (by assumption)) ?rfq10
              case yfq10 => (intro w; go_simp; try with_reducible rfl)
              try simp only [Act.put, List.setIfInBounds_toArray, List.set_cons_zero, List.set_cons_succ]
              refine st_late (i := 11) rfl (by kernel_rfl) (by rfl) (by kernel_rfl) (fun Kq hK => ?_)
              go_simp
              refine hK.out _ _ ?_
              clear hK Kq
              try simp only [Act.put, List.setIfInBounds_toArray, List.set_cons_zero, List.set_cons_succ]
              refine wpAnyD_done (by kernel_rfl) ?_ _
              refine NoPanic.normal ?_
              go_upto_region 9 with (fail)
              generalize hwX : World.setCell _ _ _ = wX
              obtain ⟨hEX, kX⟩ := set3 HEb9.out (.int .i64 (j : Int)) (.int .i64 0) (.slice Aw nw cw)
              rw [hwX] at hEX kX
              have HEX := Lib.hid hEX
              have hz6 := HZ6.out
              have hzz := HZ.out
              have hTX : Blk' wX T3 47 #[.int .i64 (j : Int), .int .i64 0, .slice (some ⟨bx, ox, none⟩) 1 1] := by
                have h := (HL7.out.tb.below HB9.out HL7.out.tb.lt).kept kX (show ¬ T3 = E6 by omega)
                rw [EBX.out] at h
                exact h
              have HKX : Hid (Kept (fun b => b = E6) w7 wX) := Lib.hid ((Kept.of_below (fun b => b = E6) HB9.out).trans kX)
              have hbbE : ¬ bx = E6 := fun h => by have h1 := HS.out bx HK0.out.2.2.2.2.1; omega
              have hbbT : ¬ bx = T3 := fun h => by have h1 := HS.out bx HK0.out.2.2.2.2.1; omega
              have k0x : wX.cell? ⟨bx, ox, none⟩ = some (.int .i64 k0.rule) := (HKX.out.cell (p := ⟨bx, ox, none⟩) hbbx hbbE).trans k0c
              have k1x : wX.cell? ⟨bx, ox + 1, none⟩ = some (.int .i64 k0.term) := (HKX.out.cell (p := ⟨bx, ox + 1, none⟩) hbbx hbbE).trans k1c
              have k2x : wX.cell? ⟨bx, ox + 1 + 1, none⟩ = some (.slice Ak kl ck) := (HKX.out.cell (p := ⟨bx, ox + 1 + 1, none⟩) hbbx hbbE).trans k2c
              have zbx : bx < wX.heap.size := Nat.lt_of_lt_of_le hbbx HKX.out.size
              have x0 := hTX.cell 0
              have x1 := hTX.cell 1
              have x2 : wX.cell? ⟨T3, 2, none⟩ = some (.slice (some ⟨bx, ox, none⟩) 1 1) := hTX.cell 2
              have fx0 := hTX.frozen 0
              have fx1 := hTX.frozen 1
              have fx2 := hTX.frozen 2
              have zTX := hTX.lt
              simp at x0 x1
              have hc4 : True := trivial
              have HTX := Lib.hid hTX
              have HOX : Hid (Els wX (fun b => w.heap.size ≤ b ∧ b < wX.heap.size ∧ b ≠ T3 ∧ b ≠ E6 ∧ b ≠ R4) (thL g n [] ++ [(⟨er, et, ek⟩ : Tree)]) Aw) := Lib.hid (((HO9.out.vl.els).2.2.2.kept kX (fun b hb h => by rcases hb.1 with h1 | h1; exact h1.2.2.2.1 h; have h2 := HL7.out.eb.lt; omega)).keep (fun _ _ _ => rfl) (fun b hb => by
                have h3 := Nat.lt_of_lt_of_le hb.2 kX.size
                have h4 := HL7.out.eb.lt
                have h5 := HL7.out.tb.lt
                have h6 := HRo7.out.lt
                have h7 := HBw7.out.size
                rcases hb.1 with h1 | h1
                · exact ⟨h1.1, h3, h1.2.2⟩
                · exact ⟨by omega, h3, by omega, by omega, by omega⟩))
              clear t0 t2 e0 e1 e2 zT zE hwX hEX kX hTX hz6 hzz k0c k1c k2c hbbE
              clear t09 t29 e09 e19 e29 fe0 fe1 fe2 zE9
              go_wp2_with fail
              generalize hwY : World.setCell _ _ _ = wY
              obtain ⟨hTY, kY⟩ := set3 HTX.out (.int .i64 k0.rule) (.int .i64 k0.term) (.slice Ak kl ck)
              rw [hwY] at hTY kY
              have hz6 := HZ6.out
              have hzz := HZ.out
              have hLY : LrL T3 E6 R4 S g n l w.heap.size ⟨(i : Int), 0, ks⟩ w6 wY k0 ⟨(j : Int), 0, thL g n [] ++ [(⟨er, et, ek⟩ : Tree)]⟩ Ak Aw ck cw := ⟨by rw [← HKl.out]; exact hTY, by
                  have h := HEX.out.kept kY (show ¬ E6 = T3 by omega)
                  rw [HNw.out] at h
                  exact h, HK0.out.1, HK0.out.2.1, by rw [← HKl.out]; exact HK0.out.2.2.1, HK0.out.2.2.2.1, ((HK0.out.2.2.2.2.2.kept HKX.out (fun b hb h => by have h1 := HS.out b hb; omega)).kept kY (fun b hb h => by have h1 := HS.out b hb; omega)), HL7.out.x1, (show I64 0 from ⟨by decide, by decide⟩), (by show (thL g n [] ++ [(⟨er, et, ek⟩ : Tree)]).length ≤ cw; rw [← HNw.out]; exact HLw.out.1), HLw.out.2, (HOX.out.kept kY (fun b hb h => hb.2.2.1 h)).keep (fun _ _ _ => rfl) (fun b hb => ⟨hb.1, Nat.lt_of_lt_of_le hb.2.1 kY.size, hb.2.2⟩), HVk.out.1, by
                  have h := HL7.out.th
                  rw [h, thS_eq, HRax.out, ← HRb.out, if_pos rfl, thH_cons], ((HL7.out.kept.trans (HKX.out.mono (fun b _ h => .inr h))).trans (kY.mono (fun b _ h => .inl h)))⟩
              have HLY := Lib.hid hLY
              have HMs : Hid (nodesT k0 < gk ∧ nodesT k0 ≤ N + 1) := Lib.hid (by have h := HXk.out; simp only [nodesT, nodesL] at h; omega)
              clear hLY hTY kY hz6 hzz
              go_roundg (nodesT k0)
              case rel => exact ⟨_, _, _, _, _, _, HLY.out, Nat.le_refl _, HMs.out.2⟩
              case measure => exact HMs.out.1
          · have hd1' : (dx = 1) = False := eq_false hd1
            go_wp2_with fail
            refine wp_region_noPanic ?_
            refine stage_start (S := (fun w' => w'.cell? ⟨T3, 0, none⟩ = some (.int .i64 (j : Int)) ∧ w'.cell? ⟨T3, 2, none⟩ = some (.slice (some ⟨bx, ox, none⟩) (rest.length + 1) dx) ∧ w'.cell? ⟨E6, 0, none⟩ = some (.int .i64 er) ∧ w'.cell? ⟨E6, 1, none⟩ = some (.int .i64 et) ∧ w'.cell? ⟨E6, 2, none⟩ = some (.slice Ae el de))) 11 (by kernel_rfl) ?hd (fun hHeld => ?bd)
            case hd => ((try dsimp only); go_keep)
            refine st_pure (i := 0) (v := ?vd0) rfl (by kernel_rfl) (by kernel_rfl) (by kernel_rfl) (by kernel_rfl) (fun _ _ _ h => h) (by rfl) ?yd0 (.inl (by assumption)) ?rd0
            case yd0 => (intro w; go_simp; try with_reducible rfl)
            try simp only [Act.put, List.setIfInBounds_toArray, List.set_cons_zero, List.set_cons_succ]
            refine st_run (i := 1) (v := ?vd1) rfl (by kernel_rfl) (by kernel_rfl) (by kernel_rfl) (by kernel_rfl) (fun _ _ _ h => h) (by rfl) ?yd1 (by assumption) ?rd1
            case yd1 => (intro w hSw; (try dsimp only at hSw); go_simp; try with_reducible rfl)
            try simp only [Act.put, List.setIfInBounds_toArray, List.set_cons_zero, List.set_cons_succ]
            refine st_pure (i := 2) (v := ?vd2) rfl (by kernel_rfl) (by kernel_rfl) (by kernel_rfl) (by kernel_rfl) (fun _ _ _ h => h) (by rfl) ?yd2 (.inl (by assumption)) ?rd2
            case yd2 => (intro w; go_simp; try with_reducible rfl)
            try simp only [Act.put, List.setIfInBounds_toArray, List.set_cons_zero, List.set_cons_succ]
            refine st_pure (i := 3) (v := ?vd3) rfl (by kernel_rfl) (by kernel_rfl) (by kernel_rfl) (by kernel_rfl) (fun _ _ _ h => h) (by rfl) ?yd3 (.inl (by assumption)) ?rd3
            case yd3 => (intro w; go_simp; try with_reducible rfl)
            try simp only [Act.put, List.setIfInBounds_toArray, List.set_cons_zero, List.set_cons_succ]
            refine st_run (i := 4) (v := ?vd4) rfl (by kernel_rfl) (by kernel_rfl) (by kernel_rfl) (by kernel_rfl) (fun _ _ _ h => h) (by rfl) ?yd4 (by assumption) ?rd4
            case yd4 => (intro w hSw; (try dsimp only at hSw); go_simp; try with_reducible rfl)
            try simp only [Act.put, List.setIfInBounds_toArray, List.set_cons_zero, List.set_cons_succ]
            refine st_pure (i := 5) (v := ?vd5) rfl (by kernel_rfl) (by kernel_rfl) (by kernel_rfl) (by kernel_rfl) (fun _ _ _ h => h) (by rfl) ?yd5 (.inl (by assumption)) ?rd5
            case yd5 => (intro w; go_simp; try with_reducible rfl)
            try simp only [Act.put, List.setIfInBounds_toArray, List.set_cons_zero, List.set_cons_succ]
            refine st_run (i := 7) (v := ?vd7) rfl (by kernel_rfl) (by kernel_rfl) (by kernel_rfl) (by kernel_rfl) (fun _ _ _ h => h) (by rfl) ?yd7 (by assumption) ?rd7
            case yd7 => (intro w hSw; (try dsimp only at hSw); go_simp; try with_reducible rfl)
            try simp only [Act.put, List.setIfInBounds_toArray, List.set_cons_zero, List.set_cons_succ]
            refine st_two (i := 6) (j := 8) rfl rfl (by kernel_rfl) (by rfl) (by rfl) (fun Kq hK => ?oned6) (fun Kq hK => ?twod6)
            case oned6 =>
              go_simp
              go_at_call 55
              refine (kidsTh_any rest HIr.out w7.drew (some ⟨bx, ox + 3, none⟩) (dx - 1) S (HP7.out.below (Below.refl w7.heap.size w7).drew) (by omega) (by omega) (HEr.out.below (Below.refl w7.heap.size w7).drew) (fun b hb => by have h1 := HS.out b hb; have h2 := HBw7.out.size; have h3 := ((Below.refl w7.heap.size w7).drew).size; exact Nat.lt_of_lt_of_le h1 (Nat.le_trans h2 h3))).mono ?_
              rintro e' w8a ⟨v, rfl, hOw8a, hbw8a⟩
              replace hbw8a : Below w7.heap.size w7 w8a := bundrew hbw8a
              obtain ⟨Av, cv, ev, hlv, hcv, _⟩ := hOw8a.form
              obtain ⟨nv, hnv⟩ : ∃ nv, nv = (thL g n rest).length := ⟨_, rfl⟩
              rw [← hnv] at ev
              subst ev
              clear hnv hlv hcv
              have t0a : w8a.cell? ⟨T3, 0, none⟩ = some (.int .i64 (j : Int)) := (hbw8a.cell (p := ⟨T3, 0, none⟩) zT).trans t0
              have t2a : w8a.cell? ⟨T3, 2, none⟩ = some (.slice (some ⟨bx, ox, none⟩) (rest.length + 1) dx) := (hbw8a.cell (p := ⟨T3, 2, none⟩) zT).trans t2
              have e0a : w8a.cell? ⟨E6, 0, none⟩ = some (.int .i64 er) := (hbw8a.cell (p := ⟨E6, 0, none⟩) zE).trans e0
              have e1a : w8a.cell? ⟨E6, 1, none⟩ = some (.int .i64 et) := (hbw8a.cell (p := ⟨E6, 1, none⟩) zE).trans e1
              have e2a : w8a.cell? ⟨E6, 2, none⟩ = some (.slice Ae el de) := (hbw8a.cell (p := ⟨E6, 2, none⟩) zE).trans e2
              have zTa : T3 < w8a.heap.size := Nat.lt_of_lt_of_le zT hbw8a.size
              have zEa : E6 < w8a.heap.size := Nat.lt_of_lt_of_le zE hbw8a.size
              refine hK.out _ _ ?hdp6 (fun hHeld => ?rdp6)
              case hdp6 => ((try dsimp only); go_keep)
              clear hK Kq
              try simp only [Act.put, List.setIfInBounds_toArray, List.set_cons_zero, List.set_cons_succ]
              refine st_one (i := 8) rfl (by kernel_rfl) (by rfl) (fun Kq hK => ?_)
              go_simp
              obtain ⟨w8b, hw8b⟩ : ∃ w : World, w = (w8a.alloc (.cells #[.int .i64 er, .int .i64 et, .slice Ae el de] 47)) := ⟨_, rfl⟩
              have hbw8b : Below w8a.heap.size w8a w8b := by rw [hw8b]; exact ((Below.refl _ _).alloc (Nat.le_refl _) _)
              have hatw8b : At w8b w8a.heap.size 0 [.int .i64 er, .int .i64 et, .slice Ae el de] := by rw [hw8b]; exact At.new w8a [.int .i64 er, .int .i64 et, .slice Ae el de] 47
              have hzw8b : w8b.heap.size = w8a.heap.size + 1 := by rw [hw8b]; simp
              rw [← hw8b]
              clear hw8b
              have t0b : w8b.cell? ⟨T3, 0, none⟩ = some (.int .i64 (j : Int)) := (hbw8b.cell (p := ⟨T3, 0, none⟩) zTa).trans t0a
              have t2b : w8b.cell? ⟨T3, 2, none⟩ = some (.slice (some ⟨bx, ox, none⟩) (rest.length + 1) dx) := (hbw8b.cell (p := ⟨T3, 2, none⟩) zTa).trans t2a
              have e0b : w8b.cell? ⟨E6, 0, none⟩ = some (.int .i64 er) := (hbw8b.cell (p := ⟨E6, 0, none⟩) zEa).trans e0a
              have e1b : w8b.cell? ⟨E6, 1, none⟩ = some (.int .i64 et) := (hbw8b.cell (p := ⟨E6, 1, none⟩) zEa).trans e1a
              have e2b : w8b.cell? ⟨E6, 2, none⟩ = some (.slice Ae el de) := (hbw8b.cell (p := ⟨E6, 2, none⟩) zEa).trans e2a
              refine hK.out _ _ ?hdp8 (fun hHeld => ?rdp8)
              case hdp8 => ((try dsimp only); go_keep)
              clear hK Kq
              try simp only [Act.put, List.setIfInBounds_toArray, List.set_cons_zero, List.set_cons_succ]
              refine st_one (i := 9) rfl (by kernel_rfl) (by rfl) (fun Kq hK => ?_)
              have hb8 : Below w7.heap.size w7 w8b := bthen hbw8a hbw8b hbw8a.size
              have hO8 : Own w8b (fun b => w.heap.size ≤ b ∧ b < w7.heap.size ∧ b ≠ T3 ∧ b ≠ E6 ∧ b ≠ R4) w7.heap.size 47 (.slice Av nv cv) (thL g n rest) := ((hOw8a.below hbw8b (Nat.le_refl _)).base (by have := hbw8a.size; first | exact Nat.le_refl _ | omega)).anyS _
              have hown8 : ∀ g', (Value.slice Av nv cv).ownBlock = some g' → w7.heap.size ≤ g' ∧ g' < w8b.heap.size := fun g' hg' => hO8.block g' hg'
              have hat8 : At w8b w8a.heap.size 0 [.int .i64 er, .int .i64 et, .slice Ae el de] := hatw8b
              have hrd8 : Dat.rd w8b (OwnT (fun b => w.heap.size ≤ b ∧ b < w7.heap.size ∧ b ≠ T3 ∧ b ≠ E6 ∧ b ≠ R4) w7.heap.size (.slice Av nv cv) w8b) (⟨er, et, ek⟩ : Tree) [.int .i64 er, .int .i64 et, .slice Ae el de] := rd_tree.2 ⟨_, rfl, HL7.out.e1, HL7.out.e2, by rw [HEl.out]; exact Vl.of_slice rfl HL7.out.e3 HL7.out.e4 ((HL7.out.ee.below hb8).keep (fun _ _ _ => rfl) (fun b hb => ⟨.inl hb, fun h => by have := (hown8 b h).1; have := hb.2.1; omega, Nat.lt_of_lt_of_le hb.2.1 hb8.size⟩))⟩
              refine wp_own1 _ _ _ elemTree rfl rfl hO8 (⟨er, et, ek⟩ : Tree) [.int .i64 er, .int .i64 et, .slice Ae el de] rfl hat8 hrd8 (by rw [thL_map, List.length_map]; omega) (by rw [thL_map, List.length_map]; omega) hb8.size ?_
              intro v' w9 hO9 hg9 _
              have hb9 : Below w7.heap.size w7 w9 := bgrown hb8 hg9 hO8 (Nat.le_refl _) hb8.size
              obtain ⟨Aw, cw, ev, hlw, hcw, _⟩ := hO9.form
              obtain ⟨nw, hnw⟩ : ∃ nw, nw = (thL g n rest ++ [(⟨er, et, ek⟩ : Tree)]).length := ⟨_, rfl⟩
              have HNw := Lib.hid hnw
              rw [← hnw] at ev hlw
              subst ev
              have HO9 := Lib.hid hO9
              have HB9 := Lib.hid hb9
              have HLw := Lib.hid (And.intro hlw hcw)
              have HEb9 := Lib.hid (HL7.out.eb.below hb9 HL7.out.eb.lt)
              have fe0 := HEb9.out.frozen 0
              have fe1 := HEb9.out.frozen 1
              have fe2 := HEb9.out.frozen 2
              have zE9 := HEb9.out.lt
              have t09 : w9.cell? ⟨T3, 0, none⟩ = some (.int .i64 (j : Int)) := (hb9.cell (p := ⟨T3, 0, none⟩) zT).trans t0
              have t29 : w9.cell? ⟨T3, 2, none⟩ = some (.slice (some ⟨bx, ox, none⟩) (rest.length + 1) dx) := (hb9.cell (p := ⟨T3, 2, none⟩) zT).trans t2
              have e09 : w9.cell? ⟨E6, 0, none⟩ = some (.int .i64 er) := (hb9.cell (p := ⟨E6, 0, none⟩) zE).trans e0
              have e19 : w9.cell? ⟨E6, 1, none⟩ = some (.int .i64 et) := (hb9.cell (p := ⟨E6, 1, none⟩) zE).trans e1
              have e29 : w9.cell? ⟨E6, 2, none⟩ = some (.slice Ae el de) := (hb9.cell (p := ⟨E6, 2, none⟩) zE).trans e2
              clear hO9 hg9 hnw hlw hcw hb8 hO8 hown8 hat8 hrd8
              clear hOw8a hatw8b hbw8a hbw8b hzw8b
              refine hK.out _ _ ?hdp9 (fun hHeld => ?rdp9)
              case hdp9 => ((try dsimp only); go_keep)
              clear hK Kq
              try simp only [Act.put, List.setIfInBounds_toArray, List.set_cons_zero, List.set_cons_succ]
              refine st_pure (i := 10) (v := ?vdp10) rfl (by kernel_rfl) (by kernel_rfl) (by kernel_rfl) (by kernel_rfl) (fun _ _ _ h => h) (by rfl) ?ydp10 (.inl (by assumption)) ?rdp10
              case ydp10 => (intro w; go_simp; try with_reducible rfl)
              try simp only [Act.put, List.setIfInBounds_toArray, List.set_cons_zero, List.set_cons_succ]
              refine st_late (i := 11) rfl (by kernel_rfl) (by rfl) (by kernel_rfl) (fun Kq hK => ?_)
              go_simp
              refine hK.out _ _ ?_
              clear hK Kq
              try simp only [Act.put, List.setIfInBounds_toArray, List.set_cons_zero, List.set_cons_succ]
              refine wpAnyD_done (by kernel_rfl) ?_ _
              refine NoPanic.normal ?_
              go_upto_region 9 with (fail)
              generalize hwX : World.setCell _ _ _ = wX
              obtain ⟨hEX, kX⟩ := set3 HEb9.out (.int .i64 (j : Int)) (.int .i64 0) (.slice Aw nw cw)
              rw [hwX] at hEX kX
              have HEX := Lib.hid hEX
              have hz6 := HZ6.out
              have hzz := HZ.out
              have hTX : Blk' wX T3 47 #[.int .i64 (j : Int), .int .i64 0, .slice (some ⟨bx, ox, none⟩) (rest.length + 1) dx] := by
                have h := (HL7.out.tb.below HB9.out HL7.out.tb.lt).kept kX (show ¬ T3 = E6 by omega)
                rw [EBX.out] at h
                exact h
              have HKX : Hid (Kept (fun b => b = E6) w7 wX) := Lib.hid ((Kept.of_below (fun b => b = E6) HB9.out).trans kX)
              have hbbE : ¬ bx = E6 := fun h => by have h1 := HS.out bx HK0.out.2.2.2.2.1; omega
              have hbbT : ¬ bx = T3 := fun h => by have h1 := HS.out bx HK0.out.2.2.2.2.1; omega
              have k0x : wX.cell? ⟨bx, ox, none⟩ = some (.int .i64 k0.rule) := (HKX.out.cell (p := ⟨bx, ox, none⟩) hbbx hbbE).trans k0c
              have k1x : wX.cell? ⟨bx, ox + 1, none⟩ = some (.int .i64 k0.term) := (HKX.out.cell (p := ⟨bx, ox + 1, none⟩) hbbx hbbE).trans k1c
              have k2x : wX.cell? ⟨bx, ox + 1 + 1, none⟩ = some (.slice Ak kl ck) := (HKX.out.cell (p := ⟨bx, ox + 1 + 1, none⟩) hbbx hbbE).trans k2c
              have zbx : bx < wX.heap.size := Nat.lt_of_lt_of_le hbbx HKX.out.size
              have x0 := hTX.cell 0
              have x1 := hTX.cell 1
              have x2 : wX.cell? ⟨T3, 2, none⟩ = some (.slice (some ⟨bx, ox, none⟩) (rest.length + 1) dx) := hTX.cell 2
              have fx0 := hTX.frozen 0
              have fx1 := hTX.frozen 1
              have fx2 := hTX.frozen 2
              have zTX := hTX.lt
              simp at x0 x1
              have hc4 : (0 : Int) < (rest.length : Int) + 1 := by omega
              have HTX := Lib.hid hTX
              have HOX : Hid (Els wX (fun b => w.heap.size ≤ b ∧ b < wX.heap.size ∧ b ≠ T3 ∧ b ≠ E6 ∧ b ≠ R4) (thL g n rest ++ [(⟨er, et, ek⟩ : Tree)]) Aw) := Lib.hid (((HO9.out.vl.els).2.2.2.kept kX (fun b hb h => by rcases hb.1 with h1 | h1; exact h1.2.2.2.1 h; have h2 := HL7.out.eb.lt; omega)).keep (fun _ _ _ => rfl) (fun b hb => by
                have h3 := Nat.lt_of_lt_of_le hb.2 kX.size
                have h4 := HL7.out.eb.lt
                have h5 := HL7.out.tb.lt
                have h6 := HRo7.out.lt
                have h7 := HBw7.out.size
                rcases hb.1 with h1 | h1
                · exact ⟨h1.1, h3, h1.2.2⟩
                · exact ⟨by omega, h3, by omega, by omega, by omega⟩))
              clear t0 t2 e0 e1 e2 zT zE hwX hEX kX hTX hz6 hzz k0c k1c k2c hbbE
              clear t09 t29 e09 e19 e29 fe0 fe1 fe2 zE9
              go_wp2_with fail
              generalize hwY : World.setCell _ _ _ = wY
              obtain ⟨hTY, kY⟩ := set3 HTX.out (.int .i64 k0.rule) (.int .i64 k0.term) (.slice Ak kl ck)
              rw [hwY] at hTY kY
              have hz6 := HZ6.out
              have hzz := HZ.out
              have hLY : LrL T3 E6 R4 S g n l w.heap.size ⟨(i : Int), 0, ks⟩ w6 wY k0 ⟨(j : Int), 0, thL g n rest ++ [(⟨er, et, ek⟩ : Tree)]⟩ Ak Aw ck cw := ⟨by rw [← HKl.out]; exact hTY, by
                  have h := HEX.out.kept kY (show ¬ E6 = T3 by omega)
                  rw [HNw.out] at h
                  exact h, HK0.out.1, HK0.out.2.1, by rw [← HKl.out]; exact HK0.out.2.2.1, HK0.out.2.2.2.1, ((HK0.out.2.2.2.2.2.kept HKX.out (fun b hb h => by have h1 := HS.out b hb; omega)).kept kY (fun b hb h => by have h1 := HS.out b hb; omega)), HL7.out.x1, (show I64 0 from ⟨by decide, by decide⟩), (by show (thL g n rest ++ [(⟨er, et, ek⟩ : Tree)]).length ≤ cw; rw [← HNw.out]; exact HLw.out.1), HLw.out.2, (HOX.out.kept kY (fun b hb h => hb.2.2.1 h)).keep (fun _ _ _ => rfl) (fun b hb => ⟨hb.1, Nat.lt_of_lt_of_le hb.2.1 kY.size, hb.2.2⟩), HVk.out.1, by
                  have h := HL7.out.th
                  rw [h, thS_eq, HRax.out, ← HRb.out, if_pos rfl, thH_cons], ((HL7.out.kept.trans (HKX.out.mono (fun b _ h => .inr h))).trans (kY.mono (fun b _ h => .inl h)))⟩
              have HLY := Lib.hid hLY
              have HMs : Hid (nodesT k0 < gk ∧ nodesT k0 ≤ N + 1) := Lib.hid (by have h := HXk.out; simp only [nodesT, nodesL] at h; omega)
              clear hLY hTY kY hz6 hzz
              go_roundg (nodesT k0)
              case rel => exact ⟨_, _, _, _, _, _, HLY.out, Nat.le_refl _, HMs.out.2⟩
              case measure => exact HMs.out.1
            case twod6 =>
              go_simp
              obtain ⟨w8a, hw8a⟩ : ∃ w : World, w = (w7.alloc (.cells #[.int .i64 er, .int .i64 et, .slice Ae el de] 47)).drew := ⟨_, rfl⟩
              have hbw8a : Below w7.heap.size w7 w8a := by rw [hw8a]; exact ((Below.refl _ _).alloc (Nat.le_refl _) _).drew
              have hatw8a : At w8a w7.heap.size 0 [.int .i64 er, .int .i64 et, .slice Ae el de] := by rw [hw8a]; exact At.new w7 [.int .i64 er, .int .i64 et, .slice Ae el de] 47
              have hzw8a : w8a.heap.size = w7.heap.size + 1 := by rw [hw8a]; simp
              rw [← hw8a]
              clear hw8a
              have t0a : w8a.cell? ⟨T3, 0, none⟩ = some (.int .i64 (j : Int)) := (hbw8a.cell (p := ⟨T3, 0, none⟩) zT).trans t0
              have t2a : w8a.cell? ⟨T3, 2, none⟩ = some (.slice (some ⟨bx, ox, none⟩) (rest.length + 1) dx) := (hbw8a.cell (p := ⟨T3, 2, none⟩) zT).trans t2
              have e0a : w8a.cell? ⟨E6, 0, none⟩ = some (.int .i64 er) := (hbw8a.cell (p := ⟨E6, 0, none⟩) zE).trans e0
              have e1a : w8a.cell? ⟨E6, 1, none⟩ = some (.int .i64 et) := (hbw8a.cell (p := ⟨E6, 1, none⟩) zE).trans e1
              have e2a : w8a.cell? ⟨E6, 2, none⟩ = some (.slice Ae el de) := (hbw8a.cell (p := ⟨E6, 2, none⟩) zE).trans e2
              have zTa : T3 < w8a.heap.size := Nat.lt_of_lt_of_le zT hbw8a.size
              have zEa : E6 < w8a.heap.size := Nat.lt_of_lt_of_le zE hbw8a.size
              refine hK.out _ _ ?hdq8 (fun hHeld => ?rdq8)
              case hdq8 => ((try dsimp only); go_keep)
              clear hK Kq
              try simp only [Act.put, List.setIfInBounds_toArray, List.set_cons_zero, List.set_cons_succ]
              refine st_one (i := 6) rfl (by kernel_rfl) (by rfl) (fun Kq hK => ?_)
              go_simp
              go_at_call 55
              refine (kidsTh_any rest HIr.out w8a (some ⟨bx, ox + 3, none⟩) (dx - 1) S (HP7.out.below hbw8a) (by omega) (by omega) (HEr.out.below hbw8a) (fun b hb => by have h1 := HS.out b hb; have h2 := HBw7.out.size; have h3 := (hbw8a).size; exact Nat.lt_of_lt_of_le h1 (Nat.le_trans h2 h3))).mono ?_
              rintro e' w8b ⟨v, rfl, hOw8b, hbw8b⟩
              obtain ⟨Av, cv, ev, hlv, hcv, _⟩ := hOw8b.form
              obtain ⟨nv, hnv⟩ : ∃ nv, nv = (thL g n rest).length := ⟨_, rfl⟩
              rw [← hnv] at ev
              subst ev
              clear hnv hlv hcv
              have t0b : w8b.cell? ⟨T3, 0, none⟩ = some (.int .i64 (j : Int)) := (hbw8b.cell (p := ⟨T3, 0, none⟩) zTa).trans t0a
              have t2b : w8b.cell? ⟨T3, 2, none⟩ = some (.slice (some ⟨bx, ox, none⟩) (rest.length + 1) dx) := (hbw8b.cell (p := ⟨T3, 2, none⟩) zTa).trans t2a
              have e0b : w8b.cell? ⟨E6, 0, none⟩ = some (.int .i64 er) := (hbw8b.cell (p := ⟨E6, 0, none⟩) zEa).trans e0a
              have e1b : w8b.cell? ⟨E6, 1, none⟩ = some (.int .i64 et) := (hbw8b.cell (p := ⟨E6, 1, none⟩) zEa).trans e1a
              have e2b : w8b.cell? ⟨E6, 2, none⟩ = some (.slice Ae el de) := (hbw8b.cell (p := ⟨E6, 2, none⟩) zEa).trans e2a
              refine hK.out _ _ ?hdq6 (fun hHeld => ?rdq6)
              case hdq6 => ((try dsimp only); go_keep)
              clear hK Kq
              try simp only [Act.put, List.setIfInBounds_toArray, List.set_cons_zero, List.set_cons_succ]
              refine st_one (i := 9) rfl (by kernel_rfl) (by rfl) (fun Kq hK => ?_)
              have hb8 : Below w7.heap.size w7 w8b := bthen hbw8a hbw8b hbw8a.size
              have hO8 : Own w8b (fun b => w.heap.size ≤ b ∧ b < w7.heap.size ∧ b ≠ T3 ∧ b ≠ E6 ∧ b ≠ R4) w7.heap.size 47 (.slice Av nv cv) (thL g n rest) := ((hOw8b).base (by have := hbw8a.size; first | exact Nat.le_refl _ | omega)).anyS _
              have hown8 : ∀ g', (Value.slice Av nv cv).ownBlock = some g' → w7.heap.size ≤ g' ∧ g' < w8b.heap.size := fun g' hg' => hO8.block g' hg'
              have hat8 : At w8b w7.heap.size 0 [.int .i64 er, .int .i64 et, .slice Ae el de] := (fun k y hk => (hbw8b.cell (p := ⟨w7.heap.size, 0 + k, none⟩) (by show w7.heap.size < w8a.heap.size; omega)).trans (hatw8a k y hk))
              have hrd8 : Dat.rd w8b (OwnT (fun b => w.heap.size ≤ b ∧ b < w7.heap.size ∧ b ≠ T3 ∧ b ≠ E6 ∧ b ≠ R4) w7.heap.size (.slice Av nv cv) w8b) (⟨er, et, ek⟩ : Tree) [.int .i64 er, .int .i64 et, .slice Ae el de] := rd_tree.2 ⟨_, rfl, HL7.out.e1, HL7.out.e2, by rw [HEl.out]; exact Vl.of_slice rfl HL7.out.e3 HL7.out.e4 ((HL7.out.ee.below hb8).keep (fun _ _ _ => rfl) (fun b hb => ⟨.inl hb, fun h => by have := (hown8 b h).1; have := hb.2.1; omega, Nat.lt_of_lt_of_le hb.2.1 hb8.size⟩))⟩
              refine wp_own1 _ _ _ elemTree rfl rfl hO8 (⟨er, et, ek⟩ : Tree) [.int .i64 er, .int .i64 et, .slice Ae el de] rfl hat8 hrd8 (by rw [thL_map, List.length_map]; omega) (by rw [thL_map, List.length_map]; omega) hb8.size ?_
              intro v' w9 hO9 hg9 _
              have hb9 : Below w7.heap.size w7 w9 := bgrown hb8 hg9 hO8 (Nat.le_refl _) hb8.size
              obtain ⟨Aw, cw, ev, hlw, hcw, _⟩ := hO9.form
              obtain ⟨nw, hnw⟩ : ∃ nw, nw = (thL g n rest ++ [(⟨er, et, ek⟩ : Tree)]).length := ⟨_, rfl⟩
              have HNw := Lib.hid hnw
              rw [← hnw] at ev hlw
              subst ev
              have HO9 := Lib.hid hO9
              have HB9 := Lib.hid hb9
              have HLw := Lib.hid (And.intro hlw hcw)
              have HEb9 := Lib.hid (HL7.out.eb.below hb9 HL7.out.eb.lt)
              have fe0 := HEb9.out.frozen 0
              have fe1 := HEb9.out.frozen 1
              have fe2 := HEb9.out.frozen 2
              have zE9 := HEb9.out.lt
              have t09 : w9.cell? ⟨T3, 0, none⟩ = some (.int .i64 (j : Int)) := (hb9.cell (p := ⟨T3, 0, none⟩) zT).trans t0
              have t29 : w9.cell? ⟨T3, 2, none⟩ = some (.slice (some ⟨bx, ox, none⟩) (rest.length + 1) dx) := (hb9.cell (p := ⟨T3, 2, none⟩) zT).trans t2
              have e09 : w9.cell? ⟨E6, 0, none⟩ = some (.int .i64 er) := (hb9.cell (p := ⟨E6, 0, none⟩) zE).trans e0
              have e19 : w9.cell? ⟨E6, 1, none⟩ = some (.int .i64 et) := (hb9.cell (p := ⟨E6, 1, none⟩) zE).trans e1
              have e29 : w9.cell? ⟨E6, 2, none⟩ = some (.slice Ae el de) := (hb9.cell (p := ⟨E6, 2, none⟩) zE).trans e2
              clear hO9 hg9 hnw hlw hcw hb8 hO8 hown8 hat8 hrd8
              clear hOw8b hatw8a hbw8a hbw8b hzw8a
              refine hK.out _ _ ?hdq9 (fun hHeld => ?rdq9)
              case hdq9 => ((try dsimp only); go_keep)
              clear hK Kq
              try simp only [Act.put, List.setIfInBounds_toArray, List.set_cons_zero, List.set_cons_succ]
              refine st_pure (i := 10) (v := ?vdq10) rfl (by kernel_rfl) (by kernel_rfl) (by kernel_rfl) (by kernel_rfl) (fun _ _ _ h => h) (by rfl) ?ydq10 (.inl (by assumption)) ?rdq10
              case ydq10 => (intro w; go_simp; try with_reducible rfl)
              try simp only [Act.put, List.setIfInBounds_toArray, List.set_cons_zero, List.set_cons_succ]
              refine st_late (i := 11) rfl (by kernel_rfl) (by rfl) (by kernel_rfl) (fun Kq hK => ?_)
              go_simp
              refine hK.out _ _ ?_
              clear hK Kq
              try simp only [Act.put, List.setIfInBounds_toArray, List.set_cons_zero, List.set_cons_succ]
              refine wpAnyD_done (by kernel_rfl) ?_ _
              refine NoPanic.normal ?_
              go_upto_region 9 with (fail)
              generalize hwX : World.setCell _ _ _ = wX
              obtain ⟨hEX, kX⟩ := set3 HEb9.out (.int .i64 (j : Int)) (.int .i64 0) (.slice Aw nw cw)
              rw [hwX] at hEX kX
              have HEX := Lib.hid hEX
              have hz6 := HZ6.out
              have hzz := HZ.out
              have hTX : Blk' wX T3 47 #[.int .i64 (j : Int), .int .i64 0, .slice (some ⟨bx, ox, none⟩) (rest.length + 1) dx] := by
                have h := (HL7.out.tb.below HB9.out HL7.out.tb.lt).kept kX (show ¬ T3 = E6 by omega)
                rw [EBX.out] at h
                exact h
              have HKX : Hid (Kept (fun b => b = E6) w7 wX) := Lib.hid ((Kept.of_below (fun b => b = E6) HB9.out).trans kX)
              have hbbE : ¬ bx = E6 := fun h => by have h1 := HS.out bx HK0.out.2.2.2.2.1; omega
              have hbbT : ¬ bx = T3 := fun h => by have h1 := HS.out bx HK0.out.2.2.2.2.1; omega
              have k0x : wX.cell? ⟨bx, ox, none⟩ = some (.int .i64 k0.rule) := (HKX.out.cell (p := ⟨bx, ox, none⟩) hbbx hbbE).trans k0c
              have k1x : wX.cell? ⟨bx, ox + 1, none⟩ = some (.int .i64 k0.term) := (HKX.out.cell (p := ⟨bx, ox + 1, none⟩) hbbx hbbE).trans k1c
              have k2x : wX.cell? ⟨bx, ox + 1 + 1, none⟩ = some (.slice Ak kl ck) := (HKX.out.cell (p := ⟨bx, ox + 1 + 1, none⟩) hbbx hbbE).trans k2c
              have zbx : bx < wX.heap.size := Nat.lt_of_lt_of_le hbbx HKX.out.size
              have x0 := hTX.cell 0
              have x1 := hTX.cell 1
              have x2 : wX.cell? ⟨T3, 2, none⟩ = some (.slice (some ⟨bx, ox, none⟩) (rest.length + 1) dx) := hTX.cell 2
              have fx0 := hTX.frozen 0
              have fx1 := hTX.frozen 1
              have fx2 := hTX.frozen 2
              have zTX := hTX.lt
              simp at x0 x1
              have hc4 : (0 : Int) < (rest.length : Int) + 1 := by omega
              have HTX := Lib.hid hTX
              have HOX : Hid (Els wX (fun b => w.heap.size ≤ b ∧ b < wX.heap.size ∧ b ≠ T3 ∧ b ≠ E6 ∧ b ≠ R4) (thL g n rest ++ [(⟨er, et, ek⟩ : Tree)]) Aw) := Lib.hid (((HO9.out.vl.els).2.2.2.kept kX (fun b hb h => by rcases hb.1 with h1 | h1; exact h1.2.2.2.1 h; have h2 := HL7.out.eb.lt; omega)).keep (fun _ _ _ => rfl) (fun b hb => by
                have h3 := Nat.lt_of_lt_of_le hb.2 kX.size
                have h4 := HL7.out.eb.lt
                have h5 := HL7.out.tb.lt
                have h6 := HRo7.out.lt
                have h7 := HBw7.out.size
                rcases hb.1 with h1 | h1
                · exact ⟨h1.1, h3, h1.2.2⟩
                · exact ⟨by omega, h3, by omega, by omega, by omega⟩))
              clear t0 t2 e0 e1 e2 zT zE hwX hEX kX hTX hz6 hzz k0c k1c k2c hbbE
              clear t09 t29 e09 e19 e29 fe0 fe1 fe2 zE9
              go_wp2_with fail
              generalize hwY : World.setCell _ _ _ = wY
              obtain ⟨hTY, kY⟩ := set3 HTX.out (.int .i64 k0.rule) (.int .i64 k0.term) (.slice Ak kl ck)
              rw [hwY] at hTY kY
              have hz6 := HZ6.out
              have hzz := HZ.out
              have hLY : LrL T3 E6 R4 S g n l w.heap.size ⟨(i : Int), 0, ks⟩ w6 wY k0 ⟨(j : Int), 0, thL g n rest ++ [(⟨er, et, ek⟩ : Tree)]⟩ Ak Aw ck cw := ⟨by rw [← HKl.out]; exact hTY, by
                  have h := HEX.out.kept kY (show ¬ E6 = T3 by omega)
                  rw [HNw.out] at h
                  exact h, HK0.out.1, HK0.out.2.1, by rw [← HKl.out]; exact HK0.out.2.2.1, HK0.out.2.2.2.1, ((HK0.out.2.2.2.2.2.kept HKX.out (fun b hb h => by have h1 := HS.out b hb; omega)).kept kY (fun b hb h => by have h1 := HS.out b hb; omega)), HL7.out.x1, (show I64 0 from ⟨by decide, by decide⟩), (by show (thL g n rest ++ [(⟨er, et, ek⟩ : Tree)]).length ≤ cw; rw [← HNw.out]; exact HLw.out.1), HLw.out.2, (HOX.out.kept kY (fun b hb h => hb.2.2.1 h)).keep (fun _ _ _ => rfl) (fun b hb => ⟨hb.1, Nat.lt_of_lt_of_le hb.2.1 kY.size, hb.2.2⟩), HVk.out.1, by
                  have h := HL7.out.th
                  rw [h, thS_eq, HRax.out, ← HRb.out, if_pos rfl, thH_cons], ((HL7.out.kept.trans (HKX.out.mono (fun b _ h => .inr h))).trans (kY.mono (fun b _ h => .inl h)))⟩
              have HLY := Lib.hid hLY
              have HMs : Hid (nodesT k0 < gk ∧ nodesT k0 ≤ N + 1) := Lib.hid (by have h := HXk.out; simp only [nodesT, nodesL] at h; omega)
              clear hLY hTY kY hz6 hzz
              go_roundg (nodesT k0)
              case rel => exact ⟨_, _, _, _, _, _, HLY.out, Nat.le_refl _, HMs.out.2⟩
              case measure => exact HMs.out.1

end Go.Proofs.Ytecofoilghdedaa
