/- Contract: first.Sets.Follow. -/
import Derived.Test.YtbboceklkjfimaaDoorQRowsM
import Derived.Test.YtbboceklkjfimaaDoorQReaPub
import Derived.Test.YtbboceklkjfimaaDoorQStable
import Derived.Test.YtbboceklkjfimaaDoorQFirstMake
import Derived.IntWalk
namespace Go.Proofs.YtbboceklkjfimaaDoor
open Go.RowKit
set_option linter.unusedVariables false

theorem setsOf_n (p be bf : Nat) (bs : List Nat) (m n : Nat) (gt gn gs : Int) (sl : Value) (cf : Nat) (e : List Bool) (f : List (List Bool)) (l : List Sym) (k : Nat) (A : Option Addr) (c : Nat) (S : Nat → Prop) (w : World) (hk : k = l.length)
    (hM : SetsM w p be bf bs m n gt gn gs sl cf e f) (hgt : gt = (m : Int)) (hm : m ≤ 1000000) (hn : n ≤ 1000000) (hll : l.length ≤ c) (hc : c ≤ 9223372036854775807) (hA : Els w S l A) (hS : ∀ b, S b → b < w.heap.size) (hin : ∀ x ∈ l, 0 ≤ x.n ∧ if x.term then x.n < (m : Int) else x.n < (n : Int)) :
    Calls Tryd.prog 63 #[.pointer (some ⟨p, 0, none⟩), .slice A k c] w fun en w' => ∃ b, en = .returned (.tuple #[rowSl b m, .bool (ofFrom e f (List.replicate m false) l).2]) ∧ w.heap.size ≤ b ∧ Blk' w' b 4 (bcells (ofFrom e f (List.replicate m false) l).1) ∧ Below w.heap.size w w' := by
  subst hk
  exact setsOf_any p be bf bs m n gt gn gs sl cf e f l A c S w hM hgt hm hn hll hc hA hS hin

theorem Els.dropSym {w : World} {S : Nat → Prop} {xs : List Sym} {b o : Nat} (h : Els w S xs (some ⟨b, o, none⟩)) (n : Nat) : Els w S (xs.drop n) (some ⟨b, o + n * 2, none⟩) := by
  intro hne
  obtain ⟨b', o', e, hS, hx⟩ := h (by rintro rfl; simp at hne)
  injection e with e
  injection e with e1 e2 _
  subst e1; subst e2
  refine ⟨b, o + n * 2, rfl, hS, fun i y hi => ?_⟩
  obtain ⟨cs, h1, h2⟩ := hx (n + i) y (by simpa using hi)
  refine ⟨cs, h1, ?_⟩
  have e2 : Dat.size Sym = 2 := rfl
  rw [e2] at h2 ⊢
  rwa [show o + n * 2 + i * 2 = o + (n + i) * 2 from by omega]
/-- What stays while Follow works. -/
structure FoK (w w1 : World) (p be bf0 : Nat) (bs0 : List Nat) (m n : Nat) (g : Gram) (A : Option Addr) (c cf0 : Nat) (e : List Bool) (f : List (List Bool)) (S : Nat → Prop) (bi : Nat) (inn : List Bool) (wr : World) : Prop where
  bel : Below w.heap.size w wr
  sets : SetsM wr p be bf0 bs0 m n g.terms g.nons g.start (.slice A g.rules.length c) cf0 e f
  old : ∀ b ∈ p :: be :: bf0 :: bs0, b < w1.heap.size
  inb : Blk' wr bi 4 (bcells inn)
  bil : bi < w1.heap.size
  els : Els wr S g.rules A
  sl : ∀ b, S b → b < w1.heap.size
section
variable {w w1 : World} {p be bf0 : Nat} {bs0 : List Nat} {m n : Nat} {g : Gram} {A : Option Addr} {c cf0 : Nat} {e : List Bool} {f : List (List Bool)} {S : Nat → Prop} {bi : Nat} {inn : List Bool} {wr wr' : World}
theorem FoK.kept {X : Nat → Prop} (h : FoK w w1 p be bf0 bs0 m n g A c cf0 e f S bi inn wr) (k : Kept X wr wr') (hX : ∀ b, X b → w1.heap.size ≤ b) (h1 : w.heap.size ≤ w1.heap.size) : FoK w w1 p be bf0 bs0 m n g A c cf0 e f S bi inn wr' :=
  ⟨h.bel.trans (k.to_below (fun b hb => Nat.le_trans h1 (hX b hb)) h.bel.size), h.sets.kept k (fun b hb hx => by have := h.old b hb; have := hX b hx; omega), h.old, h.inb.kept k (fun hx => by have := h.bil; have := hX _ hx; omega), h.bil, h.els.kept k (fun b hb hx => by have := h.sl b hb; have := hX b hx; omega), h.sl⟩
theorem FoK.below (h : FoK w w1 p be bf0 bs0 m n g A c cf0 e f S bi inn wr) (k : Below wr.heap.size wr wr') : FoK w w1 p be bf0 bs0 m n g A c cf0 e f S bi inn wr' :=
  ⟨bthen h.bel k h.bel.size, h.sets.below k, h.old, h.inb.below k h.inb.lt, h.bil, h.els.below k, h.sl⟩
end
/-- The table in the course of the work. -/
structure FoC (w w1 : World) (p be bf0 : Nat) (bs0 : List Nat) (m n : Nat) (g : Gram) (A : Option Addr) (c cf0 : Nat) (e : List Bool) (f : List (List Bool)) (S : Nat → Prop) (bi : Nat) (inn : List Bool) (bf : Nat) (bs : List Nat) (cf : Nat) (fol : List (List Bool)) (wr : World) : Prop where
  k : FoK w w1 p be bf0 bs0 m n g A c cf0 e f S bi inn wr
  rows : RowsM wr bf bs (m + 1) n cf fol
  shape : ShapeF (m + 1) n fol
  start : (fol.getD g.start.toNat [])[m]? = some true
  least : ∀ F, ClosedFol g m e f inn F → LeF F fol
section
variable {w w1 : World} {p be bf0 : Nat} {bs0 : List Nat} {m n : Nat} {g : Gram} {A : Option Addr} {c cf0 : Nat} {e : List Bool} {f : List (List Bool)} {S : Nat → Prop} {bi : Nat} {inn : List Bool} {bf : Nat} {bs : List Nat} {cf : Nat} {fol : List (List Bool)} {wr wr' : World}
theorem FoC.below (h : FoC w w1 p be bf0 bs0 m n g A c cf0 e f S bi inn bf bs cf fol wr) (k : Below wr.heap.size wr wr') : FoC w w1 p be bf0 bs0 m n g A c cf0 e f S bi inn bf bs cf fol wr' :=
  ⟨h.k.below k, h.rows.below k, h.shape, h.start, h.least⟩
/-- A row is joined with another one. -/
theorem FoC.union (h : FoC w w1 p be bf0 bs0 m n g A c cf0 e f S bi inn bf bs cf fol wr) (h1 : w.heap.size ≤ w1.heap.size) (hbs : ∀ b ∈ bf :: bs, w1.heap.size ≤ b) {i b : Nat} {r fr : List Bool} (hi : bs[i]? = some b) (hr : fol[i]? = some r) (hg : wr.grownBy wr' (some b)) (hb : Blk' wr' b 4 (bcells (orRow r fr)))
    (hF : ∀ F, ClosedFol g m e f inn F → ∀ j : Nat, fr[j]? = some true → (F.getD i [])[j]? = some true) : FoC w w1 p be bf0 bs0 m n g A c cf0 e f S bi inn bf bs cf (fol.set i (orRow r fr)) wr' := by
  have hk : Kept (fun x => x = b) wr wr' := (Kept.refl _ wr).grown hg (fun k hk => by injection hk with hk; exact .inl hk.symm)
  have hbw := hbs b (by simp [List.mem_of_getElem? hi])
  refine ⟨h.k.kept hk (fun x hx => by omega) h1, h.rows.setRow hi hk hb (by rw [orRow_len]; exact h.shape.rows _ _ hr), h.shape.set hr, ?_, fun F hc => (h.least F hc).set hr (hF F hc)⟩
  by_cases e1 : i = g.start.toNat
  · subst e1
    have hlt := (List.getElem?_eq_some_iff.1 hr).1
    have h2 := h.start
    rw [List.getD_eq_getElem?_getD, hr] at h2
    rw [List.getD_eq_getElem?_getD, List.getElem?_set]
    simp only [if_true, hlt, Option.getD_some]
    exact orRow_left _ _ _ h2
  · have h2 := h.start
    rw [List.getD_eq_getElem?_getD] at h2 ⊢
    rw [List.getElem?_set, if_neg e1]
    exact h2
end

def FoO (w w1 : World) (p be bf0 : Nat) (bs0 : List Nat) (m n : Nat) (g : Gram) (A : Option Addr) (c cf0 : Nat) (e : List Bool) (f : List (List Bool)) (S : Nat → Prop) (bi : Nat) (inn : List Bool) (bf : Nat) (bs : List Nat) (cf : Nat) (gk : Nat) (ag : Value) (wr : World) : Prop :=
  ∃ (fol : List (List Bool)) (b : Bool), ag = .bool b ∧ FoC w w1 p be bf0 bs0 m n g A c cf0 e f S bi inn bf bs cf fol wr ∧ (b = false → ∀ q ∈ g.rules, RuleC m e f inn q fol) ∧ falsesF fol + (if b then 1 else 0) ≤ gk
def FoR (w w1 : World) (p be bf0 : Nat) (bs0 : List Nat) (m n : Nat) (g : Gram) (A : Option Addr) (c cf0 : Nat) (e : List Bool) (f : List (List Bool)) (S : Nat → Prop) (bi : Nat) (inn : List Bool) (bf : Nat) (bs : List Nat) (cf : Nat) (fs : List (List Bool)) (ag i : Value) (wr : World) : Prop :=
  ∃ (j : Nat) (fol : List (List Bool)) (b : Bool), j ≤ g.rules.length ∧ i = .int .i64 j ∧ ag = .bool b ∧ FoInv m e f inn g.rules fs j 0 fol b ∧ FoC w w1 p be bf0 bs0 m n g A c cf0 e f S bi inn bf bs cf fol wr
def FoS (w w1 : World) (p be bf0 : Nat) (bs0 : List Nat) (m n : Nat) (g : Gram) (A : Option Addr) (c cf0 : Nat) (e : List Bool) (f : List (List Bool)) (S : Nat → Prop) (bi : Nat) (inn : List Bool) (bf : Nat) (bs : List Nat) (cf : Nat) (fs : List (List Bool)) (j : Nat) (q : Rule) (qb : Nat) (qc : Array Value) (Aq : Option Addr) (ag i : Value) (wr : World) : Prop :=
  ∃ (k : Nat) (fol : List (List Bool)) (b : Bool), k ≤ q.right.length ∧ i = .int .i64 k ∧ ag = .bool b ∧ FoInv m e f inn g.rules fs j k fol b ∧ FoC w w1 p be bf0 bs0 m n g A c cf0 e f S bi inn bf bs cf fol wr ∧ Blk' wr qb 72 qc ∧ w1.heap.size ≤ qb ∧ (∀ b ∈ bf :: bs, b < qb) ∧ Els wr S q.right Aq

def RetFol (g : Gram) (m n : Nat) (e : List Bool) (f : List (List Bool)) (w : World) (en : Ending) (w' : World) : Prop :=
  ∃ inn bf bs cf fol, en = .returned (.slice (some ⟨bf, 0, none⟩) n cf) ∧ RFix g (fun _ => true) n inn ∧ RowsM w' bf bs (m + 1) n cf fol ∧ ClosedFol g m e f inn fol ∧ (∀ F, ClosedFol g m e f inn F → LeF F fol) ∧ (∀ b ∈ bf :: bs, w.heap.size ≤ b) ∧ Below w.heap.size w w'

def fol0 (m n : Nat) (s : Int) : List (List Bool) := (List.replicate n (List.replicate (m + 1) false)).set s.toNat ((List.replicate (m + 1) false).set m true)
theorem fol0_get {m n : Nat} {s : Int} {i : Nat} {row : List Bool} (h : (fol0 m n s)[i]? = some row) : (i = s.toNat ∧ row = (List.replicate (m + 1) false).set m true) ∨ row = List.replicate (m + 1) false := by
  unfold fol0 at h
  rw [List.getElem?_set] at h
  split at h
  · rename_i e1
    split at h
    · injection h with h; exact .inl ⟨e1.symm, h.symm⟩
    · cases h
  · rw [List.getElem?_replicate] at h
    split at h
    · injection h with h; exact .inr h.symm
    · cases h
theorem fol0_shape (m n : Nat) (s : Int) : ShapeF (m + 1) n (fol0 m n s) :=
  ⟨by simp [fol0], fun i row h => by rcases fol0_get h with ⟨_, h⟩ | h <;> rw [h] <;> simp⟩
theorem fol0_start {m n : Nat} {s : Int} (h : s.toNat < n) : ((fol0 m n s).getD s.toNat [])[m]? = some true := by
  rw [List.getD_eq_getElem?_getD, fol0, List.getElem?_set]
  simp [h]
theorem fol0_least {g : Gram} {m n : Nat} {e inn : List Bool} {f : List (List Bool)} (F : List (List Bool)) (hF : ClosedFol g m e f inn F) : LeF F (fol0 m n g.start) := by
  intro i row h j hj
  rcases fol0_get h with ⟨h1, h2⟩ | h2
  · subst h1
    rw [h2, List.getElem?_set] at hj
    split at hj
    · rename_i e1
      subst e1
      exact hF.start
    · rw [List.getElem?_replicate] at hj
      split at hj <;> simp at hj
  · rw [h2, List.getElem?_replicate] at hj
    split at hj <;> simp at hj

set_option maxRecDepth 100000 in
set_option maxHeartbeats 4000000 in
theorem follow_any (p be bf0 : Nat) (bs0 : List Nat) (m n : Nat) (g : Gram) (A : Option Addr) (c cf0 : Nat) (e : List Bool) (f : List (List Bool)) (S : Nat → Prop) (w : World) (hck : checkI g = 0) (hgt : g.terms = (m : Int)) (hgn : g.nons = (n : Int))
    (hM : SetsM w p be bf0 bs0 m n g.terms g.nons g.start (.slice A g.rules.length c) cf0 e f) (hlc : g.rules.length ≤ c) (hc : c ≤ 9223372036854775807) (hA : Els w S g.rules A) (hS : ∀ b, S b → b < w.heap.size) :
    Calls Tryd.prog 85 #[.pointer (some ⟨p, 0, none⟩)] w (RetFol g m n e f w) := by
  have hv := validG_of hck
  obtain ⟨gt, gn, gs, rs⟩ := g
  dsimp only at *
  subst hgt; subst hgn
  have hm8 : m ≤ 8 := by have := hv.t8; dsimp only at this; omega
  have hn1 : n ≤ 10 ∧ 1 ≤ n ∧ 0 ≤ gs ∧ gs < (n : Int) := by have := hv.n10; have := hv.n1; have := hv.s0; have := hv.s1; dsimp only at *; omega
  obtain ⟨hn10, hnp, hgs0, hgs1⟩ := hn1
  have HV := Lib.hid hv
  have HRL := Lib.hid (show rs.length ≤ 32 from hv.len)
  have hrl9 : rs.length ≤ 9223372036854775807 := by have := HRL.out; omega
  have HCk := Lib.hid hck
  have HM := Lib.hid hM
  have HA := Lib.hid hA
  have HS := Lib.hid hS
  have HGe := Lib.hid hM.lt
  have p0 : w.cell? ⟨p, 0, none⟩ = some (.int .i64 (m : Int)) := hM.ptr.cell 0
  have p1 : w.cell? ⟨p, 1, none⟩ = some (.int .i64 (n : Int)) := hM.ptr.cell 1
  have p2 : w.cell? ⟨p, 2, none⟩ = some (.int .i64 gs) := hM.ptr.cell 2
  have p3 : w.cell? ⟨p, 3, none⟩ = some (.slice A rs.length c) := hM.ptr.cell 3
  clear hv hck hM hA hS
  have hmk : ∀ W, (Instr.makeSlice 37 (.int .i64 ((m : Int) + 1)) (.int .i64 ((m : Int) + 1))).run Tryd.prog W = .ok (.slice (some ⟨W.heap.size, 0, none⟩) (m + 1) (m + 1)) (W.alloc (.cells (bcells (List.replicate (m + 1) false)) 4)) := by
    have h := make_eq (m + 1) (by omega)
    simpa using h
  go_enter Tryd.func85, Tryd.ntmps85
  go_wp2_with fail
  refine (reachedPub_any ⟨(m : Int), (n : Int), gs, rs⟩ n A c S _ rfl HCk.out hlc hc HA.out HS.out).mono ?_
  rintro en w1 ⟨bi, inn, rfl, hfix, hBi, hge, hb1⟩
  have HFix := Lib.hid hfix
  have HBi := Lib.hid hBi
  have HB1 := Lib.hid hb1
  have HM1 := Lib.hid (HM.out.below hb1)
  have HA1 := Lib.hid (HA.out.below hb1)
  have HGi := Lib.hid hge
  have hw1 : w.heap.size ≤ w1.heap.size := hb1.size
  clear hfix hBi hb1 hge p0 p1 p2 p3 HM HA
  have p1 : w1.cell? ⟨p, 1, none⟩ = some (.int .i64 (n : Int)) := HM1.out.ptr.cell 1
  go_wp2_with fail
  go_loopw [5, 26] (fun v i wr => ∃ (k : Nat) (bs : List Nat), i = .int .i64 k ∧ RowL w1 (List.replicate n (List.replicate (m + 1) false)) (m + 1) v k bs wr) (fun _ i _ => n - (intOf i).toNat)
  case atStart => exact ⟨0, [], rfl, RowL.start _ _ _⟩
  case round =>
    obtain ⟨wo, hwo⟩ : ∃ wo : World, wo = wr := ⟨_, rfl⟩
    subst hwo
    obtain ⟨k, bs, rfl, hrow⟩ := hrel
    have HRow := Lib.hid hrow
    obtain ⟨h1, h2, h3, h4, h5, h6, h7⟩ := hrow
    have hkn : k ≤ n := by simpa using h1
    have HBo := Lib.hid h3
    have HOw := Lib.hid h4
    have p0 : wo.cell? ⟨p, 0, none⟩ = some (.int .i64 (m : Int)) := (HM1.out.below h3).ptr.cell 0
    have zp : p < wo.heap.size := (HM1.out.below h3).ptr.lt
    clear h1 h2 h3 h4 h5 h6 h7 p1
    by_cases hlt : k < n
    · have hk0 : (0 : Int) ≤ (k : Int) := by omega
      have hk1 : (k : Int) < (n : Int) := by omega
      have hba : Below wo.heap.size wo ((wo.alloc (.cells (bcells (List.replicate (m + 1) false)) 4)).alloc (.cells #[.slice (some ⟨wo.heap.size, 0, none⟩) (m + 1) (m + 1)] 37)) := ((Below.refl _ _).alloc (Nat.le_refl _) _).alloc (by simp) _
      have HBa := Lib.hid hba
      have HR6 := Lib.hid (row_below HOw.out hba)
      have HNb := Lib.hid ((Blk'.new wo 4 (bcells (List.replicate (m + 1) false))).alloc (.cells #[.slice (some ⟨wo.heap.size, 0, none⟩) (m + 1) (m + 1)] 37))
      have HSz : Hid (w1.heap.size ≤ ((wo.alloc (.cells (bcells (List.replicate (m + 1) false)) 4)).alloc (.cells #[.slice (some ⟨wo.heap.size, 0, none⟩) (m + 1) (m + 1)] 37)).heap.size) := Lib.hid (by have := HBo.out.size; simp; omega)
      clear hba
      go_wp2_with (at_builtin; refine wpList_row1 rfl _ _ elemBools rfl rfl rfl HR6.out (u := .slice (some ⟨wo.heap.size, 0, none⟩) (m + 1) (m + 1)) rfl (by have h := (Blk'.new' (g := wo.heap.size + 1) (wo.alloc (.cells (bcells (List.replicate (m + 1) false)) 4)) 37 #[.slice (some ⟨wo.heap.size, 0, none⟩) (m + 1) (m + 1)] (by simp)).cell 0; exact h) rfl (by omega) (by omega) HSz.out ?_; intro v' w7 hown7 hg7 hat7; have H7 := Lib.hid (And.intro hown7 (And.intro hg7 hat7)); clear hown7 hg7 hat7)
      go_roundw
      case rel => exact ⟨k + 1, _, by go_num, RowL.next HRow.out (row := List.replicate (m + 1) false) (by rw [List.getElem?_replicate]; simp [hlt]) HBa.out HNb.out (by simp) (Nat.le_refl _) H7.out.1 H7.out.2.1 H7.out.2.2⟩
      case measure => simp [intOf]; omega
    · have hkk : k = n := by omega
      subst hkk
      obtain ⟨bf, cf, rfl, hR, hBw, hBs⟩ := RowL.done hnp (by simp) HRow.out
      have HR := Lib.hid hR
      have HBs := Lib.hid hBs
      have HMo := Lib.hid (HM1.out.below hBw)
      obtain ⟨b0, hb0⟩ := get_some (show gs.toNat < bs.length by have := hR.blen; omega)
      have HB0 := Lib.hid hb0
      have hr0 := hR.rows gs.toNat b0 (List.replicate (m + 1) false) hb0 (by rw [List.getElem?_replicate]; simp; omega)
      have HR0 := Lib.hid hr0.1
      have q0 : wo.cell? ⟨p, 0, none⟩ = some (.int .i64 (m : Int)) := HMo.out.ptr.cell 0
      have q2 : wo.cell? ⟨p, 2, none⟩ = some (.int .i64 gs) := HMo.out.ptr.cell 2
      have o0 : wo.cell? ⟨bf, gs.toNat, none⟩ = some (.slice (some ⟨b0, 0, none⟩) (m + 1) (m + 1)) := hR.outer _ _ hb0
      have c0 : wo.cell? ⟨b0, m, none⟩ = some (.bool false) := (hr0.1.cell m).trans (bcells_get (by rw [List.getElem?_replicate]; simp))
      have f0 := hr0.1.frozen m
      have hk9 : k ≤ 9223372036854775807 := by omega
      clear hR hBw hBs hb0 hr0 p0 zp
      have hgk : gs.toNat < k := by omega
      have hmm0 : (0 : Int) ≤ (m : Int) := by omega
      have hmm2 : (m : Int) < (m : Int) + 1 := by omega
      have hmm3 : m + 1 ≤ 9223372036854775807 := by omega
      have HKo : Hid (FoK w w1 p be bf0 bs0 m k ⟨(m : Int), (k : Int), gs, rs⟩ A c cf0 e f S bi inn wo) := Lib.hid ⟨bthen HB1.out HBo.out HB1.out.size, HMo.out, fun b hb => HM1.out.lt b hb, HBi.out.below HBo.out HBi.out.lt, HBi.out.lt, HA1.out.below HBo.out, fun b hb => Nat.lt_of_lt_of_le (HS.out b hb) HB1.out.size⟩
      have hks : Kept (fun b => b = b0) wo (wo.drew.setCell ⟨b0, m, none⟩ (.bool true)) := ((Kept.refl (fun b => b = b0) wo).drew).setCell (p := ⟨b0, m, none⟩) (.inl rfl) _
      have hbw : w1.heap.size ≤ b0 := HBs.out b0 (by simp [List.mem_of_getElem? HB0.out])
      have HC3 : Hid (FoC w w1 p be bf0 bs0 m k ⟨(m : Int), (k : Int), gs, rs⟩ A c cf0 e f S bi inn bf bs cf (fol0 m k gs) (wo.drew.setCell ⟨b0, m, none⟩ (.bool true))) := Lib.hid
        ⟨HKo.out.kept hks (fun x hx => by omega) hw1, HR.out.setRow HB0.out hks (by have h := HR0.out.drew.set_ m (.bool true); rw [bcells_set] at h; exact h) (by simp), fol0_shape _ _ _, fol0_start hgk, fun F hF => fol0_least (g := ⟨(m : Int), (k : Int), gs, rs⟩) F hF⟩
      clear hks hbw
      go_wp2_with fail
      go_still_tail 14, (by kernel_rfl)
      change wpList _ _ _ _ _ wo.drew
      go_wp2_with fail
      clear q0 q2 o0 c0 f0
      go_loopg [6] (falsesF (fol0 m k gs) + 1) (fun gk ag wr => FoO w w1 p be bf0 bs0 m k ⟨(m : Int), (k : Int), gs, rs⟩ A c cf0 e f S bi inn bf bs cf gk ag wr)
      case atStart => exact ⟨_, true, rfl, HC3.out, (fun h => by cases h), Nat.le_refl _⟩
      case round =>
        obtain ⟨w2, hw2⟩ : ∃ w2 : World, w2 = wr := ⟨_, rfl⟩
        subst hw2
        obtain ⟨fs, b, rfl, hC, hcl, hfa⟩ := hrel
        have H2 := Lib.hid (And.intro hC (And.intro hcl hfa))
        have g3 : w2.cell? ⟨p, 3, none⟩ = some (.slice A rs.length c) := hC.k.sets.ptr.cell 3
        have zp : p < w2.heap.size := hC.k.sets.ptr.lt
        clear hC hcl hfa HC3
        cases b
        · go_wp2
          go_ret
          refine ⟨inn, bf, bs, cf, fs, rfl, HFix.out, H2.out.1.rows, ?_, H2.out.1.least, fun b hb => by have := HBs.out b hb; omega, H2.out.1.k.bel⟩
          have hsh := H2.out.1.shape
          have hfx := HFix.out
          have hlt : ∀ (z : Int), 0 ≤ z → z < (k : Int) → z.toNat < inn.length := fun z h1 h2 => by rw [hfx.len]; omega
          have hget : ∀ (i : Nat), inn.getD i false = true → inn[i]? = some true := fun i h => by
            rw [List.getD_eq_getElem?_getD] at h
            cases hx : inn[i]? with
            | none => rw [hx] at h; cases h
            | some v => rw [hx] at h; simp at h; rw [h]
          refine closed_fol (by rw [hsh.len]; simp) hsh.rows (by rw [List.getD_eq_getElem?_getD, hfx.start]; rfl) H2.out.1.start (fun q hq hin x hx ht => ?_) (fun q hq => ?_) (H2.out.2.1 (by first | exact rfl | exact trivial))
          · have hr := HV.out.rules q hq
            have hxr := hr.2.2.2 x hx
            rw [ht] at hxr
            simp at hxr
            rw [List.getD_eq_getElem?_getD, hfx.closed hq (hget _ hin) rfl hx ht (by omega)]; rfl
          · have hr := HV.out.rules q hq
            have h2 := hr.2.1
            dsimp only at h2
            refine ⟨by rw [hsh.len]; omega, fun x hx ht => ?_⟩
            have hxr := hr.2.2.2 x hx
            rw [ht] at hxr
            simp at hxr
            rw [hsh.len]; omega
        · go_wp2_with fail
          go_loopw [6, 60] (fun ag i wr => FoR w w1 p be bf0 bs0 m k ⟨(m : Int), (k : Int), gs, rs⟩ A c cf0 e f S bi inn bf bs cf fs ag i wr) (fun _ i _ => rs.length - (intOf i).toNat)
          case atStart => exact ⟨0, fs, false, Nat.zero_le _, rfl, rfl, FoInv.start _, H2.out.1⟩
          case round =>
            obtain ⟨wi, hwi⟩ : ∃ wi : World, wi = wr := ⟨_, rfl⟩
            subst hwi
            obtain ⟨j, fol, b, hj, rfl, rfl, hinv, hC⟩ := hrel
            dsimp only at hj
            have H3 := Lib.hid (And.intro hinv hC)
            clear hinv hC g3 zp
            by_cases hlt : j < rs.length
            · obtain ⟨q, hq⟩ := get_some hlt
              obtain ⟨bq, oq, Aq, cq, eA, hSb, hbs, hi, hrc, hcr, hEr, hc0, hc1⟩ := H3.out.2.k.els.rule hq
              subst eA
              have hr := HV.out.rules q (List.mem_of_getElem? hq)
              have HQ := Lib.hid (And.intro hq hr)
              obtain ⟨ql, qr⟩ := q
              dsimp only at hi hrc hcr hEr hc0 hc1 hr
              have hql0 : 0 ≤ ql := hr.1
              have hql1 : ql < (k : Int) := hr.2.1
              have hqr4 : qr.length ≤ 4 := hr.2.2.1
              have hj0 : (0 : Int) ≤ (j : Int) := by omega
              have hj1 : (j : Int) < (rs.length : Int) := by omega
              obtain ⟨iv, hiv⟩ := get_some (show ql.toNat < inn.length by rw [HFix.out.len]; omega)
              have ci : wi.cell? ⟨bi, ql.toNat, none⟩ = some (.bool iv) := (H3.out.2.k.inb.cell _).trans (bcells_get hiv)
              have zi : bi < wi.heap.size := H3.out.2.k.inb.lt
              have hgd : inn.getD ql.toNat false = iv := by rw [List.getD_eq_getElem?_getD, hiv]; rfl
              have HGD := Lib.hid hgd
              have hba : Below wi.heap.size wi (wi.alloc (.cells #[.int .i64 ql, .slice Aq qr.length cq] 72)) := (Below.refl _ _).alloc (Nat.le_refl _) _
              have H4 := Lib.hid (And.intro (H3.out.2.below hba) (And.intro (Blk'.new wi 72 #[.int .i64 ql, .slice Aq qr.length cq]) (hEr.below hba)))
              have hqr9 : qr.length ≤ 9223372036854775807 := by omega
              clear hq hr hi hEr hiv hgd hba
              cases iv
              · go_wp2_with fail
                go_roundw
                case rel => exact ⟨j + 1, fol, b, hlt, by go_num, rfl, H3.out.1.next HQ.out.1 (.inr HGD.out), H4.out.1⟩
                case measure => simp [intOf]; omega
              · go_wp2_with fail
                go_loopw [6, 73] (fun ag i wr => FoS w w1 p be bf0 bs0 m k ⟨(m : Int), (k : Int), gs, rs⟩ (some ⟨bq, oq, none⟩) c cf0 e f S bi inn bf bs cf fs j ⟨ql, qr⟩ wi.heap.size #[.int .i64 ql, .slice Aq qr.length cq] Aq ag i wr) (fun _ i _ => qr.length - (intOf i).toNat)
                case atStart => exact ⟨0, fol, b, Nat.zero_le _, rfl, rfl, H3.out.1, H4.out.1, H4.out.2.1, by have := H3.out.2.rows.lt bf (by simp); have := HBs.out bf (by simp); omega, fun b hb => H3.out.2.rows.lt b hb, H4.out.2.2⟩
                case round =>
                  obtain ⟨wz, hwz⟩ : ∃ wz : World, wz = wr := ⟨_, rfl⟩
                  subst hwz
                  obtain ⟨i2, fol, b, hi2, rfl, rfl, hinv, hC, hqb, hg1, hg2, hEz⟩ := hrel
                  dsimp only at hi2 hEz
                  have HI := Lib.hid hinv
                  have HC := Lib.hid hC
                  have HQb := Lib.hid hqb
                  have HG := Lib.hid (And.intro hg1 hg2)
                  have q1 : wz.cell? ⟨wi.heap.size, 1, none⟩ = some (.slice Aq qr.length cq) := hqb.cell 1
                  have zq : wi.heap.size < wz.heap.size := hqb.lt
                  have zq1 : wi.heap.size < wz.heap.size + 1 := by omega
                  clear hinv hC hqb hg1 hg2 hc0 hc1 ci zi
                  by_cases hlt2 : i2 < qr.length
                  · obtain ⟨x, hx⟩ := get_some hlt2
                    obtain ⟨bx, ox, eAq, hSx, hbx, hxi, xc0, xc1⟩ := hEz.sym hx
                    have HEz := Lib.hid hEz
                    have hr := HQ.out.2
                    try dsimp only at hr
                    have hxr := hr.2.2.2 x (List.mem_of_getElem? hx)
                    have hin : ∀ y ∈ qr.drop (i2 + 1), 0 ≤ y.n ∧ if y.term then y.n < (m : Int) else y.n < (k : Int) := fun y hy => hr.2.2.2 y (List.mem_of_mem_drop hy)
                    have HIn := Lib.hid hin
                    have HX := Lib.hid hx
                    obtain ⟨xt, xn⟩ := x
                    try dsimp only at hxi xc0 xc1 hxr
                    have hi0 : (0 : Int) ≤ (i2 : Int) := by omega
                    have hi1 : (i2 : Int) < (qr.length : Int) := by omega
                    have hba : Below wz.heap.size wz (wz.alloc (.cells #[.bool xt, .int .i64 xn] 50)) := (Below.refl _ _).alloc (Nat.le_refl _) _
                    have H4x := Lib.hid (And.intro (HC.out.below hba) (And.intro (HQb.out.below hba HQb.out.lt) (And.intro (hEz.below hba) (Blk'.new wz 50 #[.bool xt, .int .i64 xn]))))
                    clear hx hxi hba hr hin hEz
                    cases xt
                    rotate_left
                    · clear hxr
                      subst eAq
                      go_wp2_with fail
                      go_roundw
                      case rel => exact ⟨i2 + 1, fol, b, hlt2, by go_num, rfl, HI.out.skip HQ.out.1 HX.out rfl, H4x.out.1, H4x.out.2.1, HG.out.1, HG.out.2, H4x.out.2.2.1⟩
                      case measure => simp [intOf]; omega
                    · simp at hxr
                      have hx0 : 0 ≤ xn := hxr.1
                      have hx1 : xn < (k : Int) := hxr.2
                      subst eAq
                      have hwm : IntKind.i64.wrap ((i2 : Int) + 1) = (i2 : Int) + 1 := IntWalk.i64_in _ (by omega)
                      have hi3 : (i2 : Int) + 1 ≤ (qr.length : Int) := by omega
                      have hi4 : (i2 : Int) + 1 ≤ (cq : Int) := by omega
                      have hdl : (qr.drop (i2 + 1)).length = qr.length - (i2 + 1) := by simp
                      have HDl := Lib.hid hdl
                      clear hxr hdl
                      have HEd := Lib.hid (H4x.out.2.2.1.dropSym (i2 + 1))
                      have HEn : Hid (cq = i2 + 1 → ∀ (B : Option Addr), Els (wz.alloc (.cells #[.bool false, .int .i64 xn] 50)) S (qr.drop (i2 + 1)) B) := Lib.hid (fun h B => by rw [List.drop_of_length_le (by omega)]; exact fun h => absurd rfl h)
                      obtain ⟨fr, em, hof⟩ : ∃ fr em, ofFrom e f (List.replicate m false) (qr.drop (i2 + 1)) = (fr, em) := ⟨_, _, rfl⟩
                      have hfl : fr.length = m := by have h := ofFrom_len e f (qr.drop (i2 + 1)) (List.replicate m false); rw [hof] at h; simpa using h
                      obtain ⟨b1, hb1⟩ := get_some (show xn.toNat < bs.length by have := HC.out.rows.blen; omega)
                      obtain ⟨r, hr⟩ := get_some (show xn.toNat < fol.length by have := HC.out.shape.len; omega)
                      have hrl := HC.out.shape.rows _ _ hr
                      have hbw := HBs.out b1 (by simp [List.mem_of_getElem? hb1])
                      have hbq := HG.out.2 b1 (by simp [List.mem_of_getElem? hb1])
                      obtain ⟨c1, hc1'⟩ : ∃ c1, c1 = decide (orRow r fr ≠ r) := ⟨_, rfl⟩
                      have HF := Lib.hid (And.intro hb1 (And.intro hr (And.intro hrl (And.intro hof (And.intro hfl hc1')))))
                      have hlq : wi.heap.size < wz.heap.size := zq
                      have hmm8 : m ≤ 1000000 := by omega
                      have hkk8 : k ≤ 1000000 := by omega
                      have HSz : Hid (∀ b, S b → b < (wz.alloc (.cells #[.bool false, .int .i64 xn] 50)).heap.size) := Lib.hid (fun b hb => by have := HS.out b hb; have := HC.out.k.bel.size; simp; omega)
                      clear hof hfl hb1 hr hrl hc1'
                      rcases Classical.em (cq = i2 + 1) with hcap | hcap
                      · have hce : (cq = i2 + 1) = True := by simp [hcap]
                        have HCap := Lib.hid hcap
                        clear hcap
                        go_wp2_with fail
                        refine (setsOf_n p be bf0 bs0 m k (m : Int) (k : Int) gs _ cf0 e f (qr.drop (i2 + 1)) _ _ _ S _ HDl.out.symm H4x.out.1.k.sets rfl hmm8 hkk8 (by rw [HDl.out]; omega) (by omega) (by first | exact HEd.out | exact HEn.out HCap.out _) HSz.out HIn.out).mono ?_
                        rintro en w3 ⟨b0, rfl, hb0, hB0, hb3⟩
                        rw [HF.out.2.2.2.1] at hB0 ⊢
                        have H5 := Lib.hid (And.intro (H4x.out.1.below hb3) (And.intro (H4x.out.2.1.below hb3 H4x.out.2.1.lt) (And.intro (H4x.out.2.2.1.below hb3) (H4x.out.2.2.2.below hb3 (by simp)))))
                        have hb0' : wz.heap.size < b0 := by simp at hb0; omega
                        have HR3 := Lib.hid (H5.out.1.rows.rows _ _ _ HF.out.1 HF.out.2.1).1
                        have o3 : w3.cell? ⟨bf, xn.toNat, none⟩ = some (.slice (some ⟨b1, 0, none⟩) (m + 1) (m + 1)) := H5.out.1.rows.outer _ _ HF.out.1
                        have s3 : w3.cell? ⟨wz.heap.size, 1, none⟩ = some (.int .i64 xn) := H5.out.2.2.2.cell 1
                        have HEo := Lib.hid (els_of_blk (S := fun b => b = b0) (xs := fr) (fr.map fun x => [Value.bool x]) hB0 (bcells_flat fr) (by simp) (by intro i x cs hi hc; simp [hi] at hc; subst hc; rfl) rfl)
                        have HNb : Hid (¬ b1 = b0) := Lib.hid (by omega)
                        clear hB0 hb3 hb0 q1
                        go_wp2_with fail
                        refine (union_any r fr b1 (m + 1) (some ⟨b0, 0, none⟩) m (m + 1) m (fun b => b = b0) _ HF.out.2.2.1.symm HF.out.2.2.2.2.1.symm (by rw [HF.out.2.2.1, HF.out.2.2.2.2.1]; omega) (by rw [HF.out.2.2.2.2.1]; omega) HR3.out HEo.out HNb.out).mono ?_
                        rintro en w4 ⟨he4, hg4, hb4⟩
                        rw [← HF.out.2.2.2.2.2] at he4
                        subst he4
                        have hC5 := H5.out.1.union hw1 HBs.out HF.out.1 HF.out.2.1 hg4 hb4 (fun F hF j hj => hF.row ⟨ql, qr⟩ (List.mem_of_getElem? HQ.out.1) HGD.out i2 ⟨false, xn⟩ HX.out rfl j (by rw [HF.out.2.2.2.1]; exact hj))
                        have hk4 : Kept (fun x => x = b1) w3 w4 := (Kept.refl _ w3).grown hg4 (fun k hk => by injection hk with hk; exact .inl hk.symm)
                        have H6 := Lib.hid (And.intro hC5 (And.intro (H5.out.2.1.kept hk4 (by omega)) (And.intro (H5.out.2.2.1.kept hk4 (fun b hb e => by have := HC.out.k.sl b hb; omega)) (And.intro (H5.out.2.2.2.kept hk4 (by omega)) hb4))))
                        clear hC5 hg4 hb4 hk4 o3 s3
                        cases em
                        · have HFi : ∀ b', b' = (false || (c1 || b)) → FoInv m e f inn rs fs j (i2 + 1) (fol.set xn.toNat (orRow r fr)) b' := fun b' hb' => HI.out.turn HQ.out.1 HX.out HF.out.2.1 HF.out.2.2.2.1 HF.out.2.2.2.2.2 (fun _ => ⟨rfl, rfl⟩) (fun h => by cases h) hb'
                          have HFI := Lib.hid HFi
                          clear HFi
                          cases c1 <;> cases b
                          all_goals
                            go_wp2_with fail
                            go_roundw
                            case rel => exact ⟨i2 + 1, _, _, hlt2, by go_num, rfl, HFI.out _ (by rfl), H6.out.1, H6.out.2.1, HG.out.1, HG.out.2, H6.out.2.2.1⟩
                            case measure => simp [intOf]; omega
                        · have hlen1 := H6.out.1.shape.len
                          obtain ⟨bl, hbl⟩ := get_some (show ql.toNat < bs.length by have := HC.out.rows.blen; omega)
                          obtain ⟨lr, hlr⟩ := get_some (show ql.toNat < (fol.set xn.toNat (orRow r fr)).length by omega)
                          have hlrl := H6.out.1.shape.rows _ _ hlr
                          have hx1r : (fol.set xn.toNat (orRow r fr))[xn.toNat]? = some (orRow r fr) := by rw [List.getElem?_set]; simp; have := HC.out.shape.len; omega
                          have o4x : w4.cell? ⟨bf, xn.toNat, none⟩ = some (.slice (some ⟨b1, 0, none⟩) (m + 1) (m + 1)) := H6.out.1.rows.outer _ _ HF.out.1
                          have o4l : w4.cell? ⟨bf, ql.toNat, none⟩ = some (.slice (some ⟨bl, 0, none⟩) (m + 1) (m + 1)) := H6.out.1.rows.outer _ _ hbl
                          have s4 : w4.cell? ⟨wz.heap.size, 1, none⟩ = some (.int .i64 xn) := H6.out.2.2.2.1.cell 1
                          have q4 : w4.cell? ⟨wi.heap.size, 0, none⟩ = some (.int .i64 ql) := H6.out.2.1.cell 0
                          have hgdl : (fol.set xn.toNat (orRow r fr)).getD ql.toNat [] = lr := by rw [List.getD_eq_getElem?_getD, hlr]; rfl
                          by_cases hsm : ql.toNat = xn.toNat
                          · have hbe : bl = b1 := by rw [hsm, HF.out.1] at hbl; injection hbl with hbl; exact hbl.symm
                            subst hbe
                            have hle : lr = orRow r fr := by rw [hsm, hx1r] at hlr; injection hlr with hlr; exact hlr.symm
                            have HFi : ∀ b', b' = (false || (c1 || b)) → FoInv m e f inn rs fs j (i2 + 1) (fol.set xn.toNat (orRow r fr)) b' := fun b' hb' => HI.out.turn HQ.out.1 HX.out HF.out.2.1 HF.out.2.2.2.1 HF.out.2.2.2.2.2 (fun h => by cases h) (fun _ => ⟨lr, hgdl, by rw [hle, orRow_self]; simp, by rw [hle, orRow_self]⟩) hb'
                            have HFI := Lib.hid HFi
                            have hl1 : m + 1 = (orRow r fr).length := by rw [orRow_len]; exact HF.out.2.2.1.symm
                            have HL1 := Lib.hid hl1
                            have HRx := Lib.hid H6.out.2.2.2.2.drew
                            clear HFi hsm hle hlr hbl hgdl hlrl hx1r hl1 hlen1
                            cases c1 <;> cases b
                            all_goals
                              go_wp2_with fail
                              go_still_tail 10, (by kernel_rfl)
                              change wpList _ _ _ _ _ w4.drew
                              go_wp2_with fail
                              refine (union_self (orRow r fr) bl (m + 1) (m + 1) _ HL1.out (by have := HL1.out; omega) HRx.out).mono ?_
                              rintro en w5 ⟨rfl, rfl⟩
                              go_wp2_with fail
                              go_roundw
                              case rel => exact ⟨i2 + 1, _, _, hlt2, by go_num, rfl, HFI.out _ (by rfl), H6.out.1.below (Below.refl _ _).drew, H6.out.2.1.drew, HG.out.1, HG.out.2, H6.out.2.2.1.below (Below.refl _ _).drew⟩
                              case measure => simp [intOf]; omega
                          · obtain ⟨c2, hc2⟩ : ∃ c2, c2 = decide (orRow (orRow r fr) lr ≠ orRow r fr) := ⟨_, rfl⟩
                            have HFi : ∀ b', b' = (c2 || (c1 || b)) → FoInv m e f inn rs fs j (i2 + 1) (fol.set xn.toNat (orRow (orRow r fr) lr)) b' := fun b' hb' => HI.out.turn HQ.out.1 HX.out HF.out.2.1 HF.out.2.2.2.1 HF.out.2.2.2.2.2 (fun h => by cases h) (fun _ => ⟨lr, hgdl, hc2, rfl⟩) hb'
                            have HFI := Lib.hid HFi
                            have hl1 : (orRow r fr).length = m + 1 := by rw [orRow_len]; exact HF.out.2.2.1
                            have hne : ¬ b1 = bl := fun e1 => by
                              subst e1
                              have hnd := (List.nodup_cons.1 H6.out.1.rows.nodup).2
                              obtain ⟨u1, u2⟩ := List.getElem?_eq_some_iff.1 HF.out.1
                              obtain ⟨u3, u4⟩ := List.getElem?_eq_some_iff.1 hbl
                              exact hsm ((List.getElem_inj hnd).1 (u4.trans u2.symm))
                            have hRl := (H6.out.1.rows.rows _ _ _ hbl hlr).1
                            have HEl := Lib.hid (els_of_blk (S := fun b => b = bl) (xs := lr) (lr.map fun x => [Value.bool x]) (hRl.drew) (bcells_flat lr) (by simp) (by intro i x cs hi hc; simp [hi] at hc; subst hc; rfl) rfl)
                            have HW := Lib.hid (And.intro hl1 (And.intro hlrl (And.intro hne (And.intro hc2 (And.intro hx1r hlr)))))
                            have HRx := Lib.hid H6.out.2.2.2.2.drew
                            clear HFi hsm hlr hbl hgdl hlrl hx1r hl1 hlen1 hne hRl hc2
                            cases c1 <;> cases b <;> cases c2
                            all_goals
                              go_wp2_with fail
                              go_still_tail 10, (by kernel_rfl)
                              change wpList _ _ _ _ _ w4.drew
                              go_wp2_with fail
                              refine (union_any (orRow r fr) lr b1 (m + 1) (some ⟨bl, 0, none⟩) (m + 1) (m + 1) (m + 1) (fun b => b = bl) _ HW.out.1.symm HW.out.2.1.symm (by rw [HW.out.1, HW.out.2.1]; exact Nat.le_refl _) (by rw [HW.out.2.1]; omega) HRx.out HEl.out HW.out.2.2.1).mono ?_
                              rintro en w5 ⟨he5, hg5, hb5⟩
                              rw [← HW.out.2.2.2.1] at he5
                              subst he5
                              have hC7 := (H6.out.1.below (Below.refl _ _).drew).union hw1 HBs.out HF.out.1 HW.out.2.2.2.2.1 hg5 hb5 (fun F hF jj hj => hF.pass ⟨ql, qr⟩ (List.mem_of_getElem? HQ.out.1) HGD.out i2 ⟨false, xn⟩ HX.out rfl (by rw [HF.out.2.2.2.1]) jj (H6.out.1.least F hF _ _ HW.out.2.2.2.2.2 jj hj))
                              rw [List.set_set] at hC7
                              have hk5 : Kept (fun x => x = b1) w4 w5 := ((Kept.refl _ w4).drew).grown hg5 (fun k hk => by injection hk with hk; exact .inl hk.symm)
                              have H7 := Lib.hid (And.intro hC7 (And.intro (H6.out.2.1.kept hk5 (by omega)) (H6.out.2.2.1.kept hk5 (fun b hb e => by have := HC.out.k.sl b hb; omega))))
                              clear hC7 hg5 hb5 hk5
                              go_wp2_with fail
                              go_roundw
                              case rel => exact ⟨i2 + 1, _, _, hlt2, by go_num, rfl, HFI.out _ (by rfl), H7.out.1, H7.out.2.1, HG.out.1, HG.out.2, H7.out.2.2⟩
                              case measure => simp [intOf]; omega
                      · have hce : (cq = i2 + 1) = False := by simp [hcap]
                        have HCap : Hid (True) := Lib.hid trivial
                        clear hcap
                        go_wp2_with fail
                        refine (setsOf_n p be bf0 bs0 m k (m : Int) (k : Int) gs _ cf0 e f (qr.drop (i2 + 1)) _ _ _ S _ HDl.out.symm H4x.out.1.k.sets rfl hmm8 hkk8 (by rw [HDl.out]; omega) (by omega) (by first | exact HEd.out | exact HEn.out HCap.out _) HSz.out HIn.out).mono ?_
                        rintro en w3 ⟨b0, rfl, hb0, hB0, hb3⟩
                        rw [HF.out.2.2.2.1] at hB0 ⊢
                        have H5 := Lib.hid (And.intro (H4x.out.1.below hb3) (And.intro (H4x.out.2.1.below hb3 H4x.out.2.1.lt) (And.intro (H4x.out.2.2.1.below hb3) (H4x.out.2.2.2.below hb3 (by simp)))))
                        have hb0' : wz.heap.size < b0 := by simp at hb0; omega
                        have HR3 := Lib.hid (H5.out.1.rows.rows _ _ _ HF.out.1 HF.out.2.1).1
                        have o3 : w3.cell? ⟨bf, xn.toNat, none⟩ = some (.slice (some ⟨b1, 0, none⟩) (m + 1) (m + 1)) := H5.out.1.rows.outer _ _ HF.out.1
                        have s3 : w3.cell? ⟨wz.heap.size, 1, none⟩ = some (.int .i64 xn) := H5.out.2.2.2.cell 1
                        have HEo := Lib.hid (els_of_blk (S := fun b => b = b0) (xs := fr) (fr.map fun x => [Value.bool x]) hB0 (bcells_flat fr) (by simp) (by intro i x cs hi hc; simp [hi] at hc; subst hc; rfl) rfl)
                        have HNb : Hid (¬ b1 = b0) := Lib.hid (by omega)
                        clear hB0 hb3 hb0 q1
                        go_wp2_with fail
                        refine (union_any r fr b1 (m + 1) (some ⟨b0, 0, none⟩) m (m + 1) m (fun b => b = b0) _ HF.out.2.2.1.symm HF.out.2.2.2.2.1.symm (by rw [HF.out.2.2.1, HF.out.2.2.2.2.1]; omega) (by rw [HF.out.2.2.2.2.1]; omega) HR3.out HEo.out HNb.out).mono ?_
                        rintro en w4 ⟨he4, hg4, hb4⟩
                        rw [← HF.out.2.2.2.2.2] at he4
                        subst he4
                        have hC5 := H5.out.1.union hw1 HBs.out HF.out.1 HF.out.2.1 hg4 hb4 (fun F hF j hj => hF.row ⟨ql, qr⟩ (List.mem_of_getElem? HQ.out.1) HGD.out i2 ⟨false, xn⟩ HX.out rfl j (by rw [HF.out.2.2.2.1]; exact hj))
                        have hk4 : Kept (fun x => x = b1) w3 w4 := (Kept.refl _ w3).grown hg4 (fun k hk => by injection hk with hk; exact .inl hk.symm)
                        have H6 := Lib.hid (And.intro hC5 (And.intro (H5.out.2.1.kept hk4 (by omega)) (And.intro (H5.out.2.2.1.kept hk4 (fun b hb e => by have := HC.out.k.sl b hb; omega)) (And.intro (H5.out.2.2.2.kept hk4 (by omega)) hb4))))
                        clear hC5 hg4 hb4 hk4 o3 s3
                        cases em
                        · have HFi : ∀ b', b' = (false || (c1 || b)) → FoInv m e f inn rs fs j (i2 + 1) (fol.set xn.toNat (orRow r fr)) b' := fun b' hb' => HI.out.turn HQ.out.1 HX.out HF.out.2.1 HF.out.2.2.2.1 HF.out.2.2.2.2.2 (fun _ => ⟨rfl, rfl⟩) (fun h => by cases h) hb'
                          have HFI := Lib.hid HFi
                          clear HFi
                          cases c1 <;> cases b
                          all_goals
                            go_wp2_with fail
                            go_roundw
                            case rel => exact ⟨i2 + 1, _, _, hlt2, by go_num, rfl, HFI.out _ (by rfl), H6.out.1, H6.out.2.1, HG.out.1, HG.out.2, H6.out.2.2.1⟩
                            case measure => simp [intOf]; omega
                        · have hlen1 := H6.out.1.shape.len
                          obtain ⟨bl, hbl⟩ := get_some (show ql.toNat < bs.length by have := HC.out.rows.blen; omega)
                          obtain ⟨lr, hlr⟩ := get_some (show ql.toNat < (fol.set xn.toNat (orRow r fr)).length by omega)
                          have hlrl := H6.out.1.shape.rows _ _ hlr
                          have hx1r : (fol.set xn.toNat (orRow r fr))[xn.toNat]? = some (orRow r fr) := by rw [List.getElem?_set]; simp; have := HC.out.shape.len; omega
                          have o4x : w4.cell? ⟨bf, xn.toNat, none⟩ = some (.slice (some ⟨b1, 0, none⟩) (m + 1) (m + 1)) := H6.out.1.rows.outer _ _ HF.out.1
                          have o4l : w4.cell? ⟨bf, ql.toNat, none⟩ = some (.slice (some ⟨bl, 0, none⟩) (m + 1) (m + 1)) := H6.out.1.rows.outer _ _ hbl
                          have s4 : w4.cell? ⟨wz.heap.size, 1, none⟩ = some (.int .i64 xn) := H6.out.2.2.2.1.cell 1
                          have q4 : w4.cell? ⟨wi.heap.size, 0, none⟩ = some (.int .i64 ql) := H6.out.2.1.cell 0
                          have hgdl : (fol.set xn.toNat (orRow r fr)).getD ql.toNat [] = lr := by rw [List.getD_eq_getElem?_getD, hlr]; rfl
                          by_cases hsm : ql.toNat = xn.toNat
                          · have hbe : bl = b1 := by rw [hsm, HF.out.1] at hbl; injection hbl with hbl; exact hbl.symm
                            subst hbe
                            have hle : lr = orRow r fr := by rw [hsm, hx1r] at hlr; injection hlr with hlr; exact hlr.symm
                            have HFi : ∀ b', b' = (false || (c1 || b)) → FoInv m e f inn rs fs j (i2 + 1) (fol.set xn.toNat (orRow r fr)) b' := fun b' hb' => HI.out.turn HQ.out.1 HX.out HF.out.2.1 HF.out.2.2.2.1 HF.out.2.2.2.2.2 (fun h => by cases h) (fun _ => ⟨lr, hgdl, by rw [hle, orRow_self]; simp, by rw [hle, orRow_self]⟩) hb'
                            have HFI := Lib.hid HFi
                            have hl1 : m + 1 = (orRow r fr).length := by rw [orRow_len]; exact HF.out.2.2.1.symm
                            have HL1 := Lib.hid hl1
                            have HRx := Lib.hid H6.out.2.2.2.2.drew
                            clear HFi hsm hle hlr hbl hgdl hlrl hx1r hl1 hlen1
                            cases c1 <;> cases b
                            all_goals
                              go_wp2_with fail
                              go_still_tail 10, (by kernel_rfl)
                              change wpList _ _ _ _ _ w4.drew
                              go_wp2_with fail
                              refine (union_self (orRow r fr) bl (m + 1) (m + 1) _ HL1.out (by have := HL1.out; omega) HRx.out).mono ?_
                              rintro en w5 ⟨rfl, rfl⟩
                              go_wp2_with fail
                              go_roundw
                              case rel => exact ⟨i2 + 1, _, _, hlt2, by go_num, rfl, HFI.out _ (by rfl), H6.out.1.below (Below.refl _ _).drew, H6.out.2.1.drew, HG.out.1, HG.out.2, H6.out.2.2.1.below (Below.refl _ _).drew⟩
                              case measure => simp [intOf]; omega
                          · obtain ⟨c2, hc2⟩ : ∃ c2, c2 = decide (orRow (orRow r fr) lr ≠ orRow r fr) := ⟨_, rfl⟩
                            have HFi : ∀ b', b' = (c2 || (c1 || b)) → FoInv m e f inn rs fs j (i2 + 1) (fol.set xn.toNat (orRow (orRow r fr) lr)) b' := fun b' hb' => HI.out.turn HQ.out.1 HX.out HF.out.2.1 HF.out.2.2.2.1 HF.out.2.2.2.2.2 (fun h => by cases h) (fun _ => ⟨lr, hgdl, hc2, rfl⟩) hb'
                            have HFI := Lib.hid HFi
                            have hl1 : (orRow r fr).length = m + 1 := by rw [orRow_len]; exact HF.out.2.2.1
                            have hne : ¬ b1 = bl := fun e1 => by
                              subst e1
                              have hnd := (List.nodup_cons.1 H6.out.1.rows.nodup).2
                              obtain ⟨u1, u2⟩ := List.getElem?_eq_some_iff.1 HF.out.1
                              obtain ⟨u3, u4⟩ := List.getElem?_eq_some_iff.1 hbl
                              exact hsm ((List.getElem_inj hnd).1 (u4.trans u2.symm))
                            have hRl := (H6.out.1.rows.rows _ _ _ hbl hlr).1
                            have HEl := Lib.hid (els_of_blk (S := fun b => b = bl) (xs := lr) (lr.map fun x => [Value.bool x]) (hRl.drew) (bcells_flat lr) (by simp) (by intro i x cs hi hc; simp [hi] at hc; subst hc; rfl) rfl)
                            have HW := Lib.hid (And.intro hl1 (And.intro hlrl (And.intro hne (And.intro hc2 (And.intro hx1r hlr)))))
                            have HRx := Lib.hid H6.out.2.2.2.2.drew
                            clear HFi hsm hlr hbl hgdl hlrl hx1r hl1 hlen1 hne hRl hc2
                            cases c1 <;> cases b <;> cases c2
                            all_goals
                              go_wp2_with fail
                              go_still_tail 10, (by kernel_rfl)
                              change wpList _ _ _ _ _ w4.drew
                              go_wp2_with fail
                              refine (union_any (orRow r fr) lr b1 (m + 1) (some ⟨bl, 0, none⟩) (m + 1) (m + 1) (m + 1) (fun b => b = bl) _ HW.out.1.symm HW.out.2.1.symm (by rw [HW.out.1, HW.out.2.1]; exact Nat.le_refl _) (by rw [HW.out.2.1]; omega) HRx.out HEl.out HW.out.2.2.1).mono ?_
                              rintro en w5 ⟨he5, hg5, hb5⟩
                              rw [← HW.out.2.2.2.1] at he5
                              subst he5
                              have hC7 := (H6.out.1.below (Below.refl _ _).drew).union hw1 HBs.out HF.out.1 HW.out.2.2.2.2.1 hg5 hb5 (fun F hF jj hj => hF.pass ⟨ql, qr⟩ (List.mem_of_getElem? HQ.out.1) HGD.out i2 ⟨false, xn⟩ HX.out rfl (by rw [HF.out.2.2.2.1]) jj (H6.out.1.least F hF _ _ HW.out.2.2.2.2.2 jj hj))
                              rw [List.set_set] at hC7
                              have hk5 : Kept (fun x => x = b1) w4 w5 := ((Kept.refl _ w4).drew).grown hg5 (fun k hk => by injection hk with hk; exact .inl hk.symm)
                              have H7 := Lib.hid (And.intro hC7 (And.intro (H6.out.2.1.kept hk5 (by omega)) (H6.out.2.2.1.kept hk5 (fun b hb e => by have := HC.out.k.sl b hb; omega))))
                              clear hC7 hg5 hb5 hk5
                              go_wp2_with fail
                              go_roundw
                              case rel => exact ⟨i2 + 1, _, _, hlt2, by go_num, rfl, HFI.out _ (by rfl), H7.out.1, H7.out.2.1, HG.out.1, HG.out.2, H7.out.2.2⟩
                              case measure => simp [intOf]; omega
                  · go_wp2_with fail
                    go_roundw
                    case rel => exact ⟨j + 1, fol, b, hlt, by go_num, rfl, HI.out.next HQ.out.1 (.inl (by show qr.length ≤ i2; omega)), HC.out⟩
                    case measure => simp [intOf]; omega
            · have E := Lib.hid (show ∀ q ∈ rs, b = false → RuleC m e f inn q fol from fun q hq hb => by
                obtain ⟨i, hi⟩ := List.mem_iff_getElem?.1 hq
                have h := H3.out.1.1 hb
                rw [h.1]
                exact h.2.1 i q (by have := (List.getElem?_eq_some_iff.1 hi).1; omega) hi)
              go_wp2_with fail
              go_roundg (falsesF fol + (if b then 1 else 0))
              case measure =>
                have h1 := H2.out.2.2
                cases b
                · have h2 := (H3.out.1.1 rfl).1
                  rw [h2]; simp at h1 ⊢; omega
                · have h2 := H3.out.1.2 rfl
                  simp at h1 ⊢; omega
              case rel => exact ⟨fol, b, rfl, H3.out.2, fun hb q hq => E.out q hq hb, Nat.le_refl _⟩
end Go.Proofs.YtbboceklkjfimaaDoor
