/- Contract: parlref2.Edges: the relation between symbols that stand at the beginning (at the end) of what a symbol becomes. -/
import Derived.Test.YtagcnhiinmiklaaDoorQRNull
import Derived.Test.YtagcnhiinmiklaaDoorQRClos
import Derived.Test.YtagcnhiinmiklaaDoorQRowMk
import Derived.Test.YtagcnhiinmiklaaDoorQp2
import Derived.Test.YtagcnhiinmiklaaDoorQRulesIn
import Derived.Deep.RegionHeld3
import Derived.IntWalk
namespace Go.Proofs.YtagcnhiinmiklaaDoor
open Go.RowKit
set_option linter.unusedVariables false

def restOf (back : Bool) (l : List Sym) (i : Nat) : List Sym := if back then l.drop (i + 1) else l.take i
/-- A step from a nonterminal to a symbol of a rule of its own, with only empty ones before (behind) it. -/
def EdgB (g : Gram) (m : Nat) (back : Bool) (a b : Nat) : Prop := ∃ (q : Rule) (i : Nat) (x : Sym), q ∈ g.rules ∧ q.right[i]? = some x ∧ Nuls g (restOf back q.right i) ∧ a = m + q.left.toNat ∧ b = nodeS m x
inductive WkB (g : Gram) (m : Nat) (back : Bool) (a : Nat) : Nat → Prop where
  | refl : WkB g m back a a
  | snoc (b c : Nat) (h : WkB g m back a b) (hs : EdgB g m back b c) : WkB g m back a c
theorem EdgB.first {g : Gram} {m a b : Nat} : EdgB g m false a b ↔ EdgF g m a b := Iff.rfl
theorem WkB.first {g : Gram} {m a b : Nat} : WkB g m false a b ↔ WkF g m a b := by
  constructor
  · intro h
    induction h with
    | refl => exact .refl _
    | snoc b c _ hs ih => exact ih.trans (.head _ _ _ hs (.refl _))
  · intro h
    induction h with
    | refl => exact .refl
    | head a b c hs _ ih =>
      have key : ∀ d, WkB g m false b d → WkB g m false a d := fun d hd => by
        induction hd with
        | refl => exact .snoc _ _ .refl hs
        | snoc x y _ hxy ih2 => exact .snoc x y ih2 hxy
      exact key c ih

/-- One place of a rule is marked: some rules are done, and of the next one some places. -/
def MarkB (rs : List Rule) (nl : List Bool) (m : Nat) (back : Bool) (j i : Nat) (a b : Nat) : Prop :=
  ∃ (k : Nat) (q : Rule) (p : Nat) (x : Sym), rs[k]? = some q ∧ q.right[p]? = some x ∧ (k < j ∨ (k = j ∧ p < i)) ∧ emptyB nl (restOf back q.right p) = true ∧ a = m + q.left.toNat ∧ b = nodeS m x
theorem gt_set {n : Nat} {f : List (List Bool)} (h : WarS n f) {r c : Nat} (hr : r < n) (hc : c < n) (a b : Nat) : Gt (f.set r ((f.getD r []).set c true)) a b ↔ Gt f a b ∨ (a = r ∧ b = c) := by
  obtain ⟨w, h1, h2, h3⟩ := h.get hr
  unfold Gt
  rw [List.getD_eq_getElem?_getD, List.getElem?_set]
  by_cases e : r = a
  · subst e
    rw [if_pos rfl, if_pos (by rw [h.len]; exact hr), h2]
    simp only [Option.getD_some]
    rw [List.getElem?_set]
    by_cases e2 : c = b
    · subst e2
      rw [if_pos rfl, if_pos (by omega)]
      exact ⟨fun _ => .inr (by constructor <;> first | rfl | trivial), fun _ => rfl⟩
    · rw [if_neg e2]
      exact ⟨.inl, fun h => h.elim id fun h => absurd h.2.symm e2⟩
  · rw [if_neg e, ← List.getD_eq_getElem?_getD]
    exact ⟨.inl, fun h => h.elim id fun h => absurd h.1.symm e⟩
theorem MarkB.hit {rs : List Rule} {nl : List Bool} {m : Nat} {back : Bool} {j i : Nat} {q : Rule} {x : Sym} (hq : rs[j]? = some q) (hx : q.right[i]? = some x) (he : emptyB nl (restOf back q.right i) = true) (a b : Nat) :
    MarkB rs nl m back j (i + 1) a b ↔ MarkB rs nl m back j i a b ∨ (a = m + q.left.toNat ∧ b = nodeS m x) := by
  constructor
  · rintro ⟨k, q', p, x', h1, h2, h3, h4, h5, h6⟩
    by_cases e : k = j ∧ p = i
    · obtain ⟨rfl, rfl⟩ := e
      rw [hq] at h1
      injection h1 with h1
      subst h1
      rw [hx] at h2
      injection h2 with h2
      subst h2
      exact .inr ⟨h5, h6⟩
    · exact .inl ⟨k, q', p, x', h1, h2, by omega, h4, h5, h6⟩
  · rintro (⟨k, q', p, x', h1, h2, h3, h4, h5, h6⟩ | ⟨h5, h6⟩)
    · exact ⟨k, q', p, x', h1, h2, by omega, h4, h5, h6⟩
    · exact ⟨j, q, i, x, hq, hx, by omega, he, h5, h6⟩
theorem MarkB.miss {rs : List Rule} {nl : List Bool} {m : Nat} {back : Bool} {j i : Nat} {q : Rule} (hq : rs[j]? = some q) (he : emptyB nl (restOf back q.right i) = false) (a b : Nat) :
    MarkB rs nl m back j (i + 1) a b ↔ MarkB rs nl m back j i a b := by
  constructor
  · rintro ⟨k, q', p, x', h1, h2, h3, h4, h5, h6⟩
    by_cases e : k = j ∧ p = i
    · obtain ⟨rfl, rfl⟩ := e
      rw [hq] at h1
      injection h1 with h1
      subst h1
      rw [he] at h4
      cases h4
    · exact ⟨k, q', p, x', h1, h2, by omega, h4, h5, h6⟩
  · rintro ⟨k, q', p, x', h1, h2, h3, h4, h5, h6⟩
    exact ⟨k, q', p, x', h1, h2, by omega, h4, h5, h6⟩
theorem MarkB.next {rs : List Rule} {nl : List Bool} {m : Nat} {back : Bool} {j : Nat} {q : Rule} (hq : rs[j]? = some q) (a b : Nat) : MarkB rs nl m back (j + 1) 0 a b ↔ MarkB rs nl m back j q.right.length a b := by
  constructor
  · rintro ⟨k, q', p, x', h1, h2, h3, h4, h5, h6⟩
    refine ⟨k, q', p, x', h1, h2, ?_, h4, h5, h6⟩
    by_cases e : k = j
    · subst e
      rw [hq] at h1
      injection h1 with h1
      subst h1
      have := (List.getElem?_eq_some_iff.1 h2).1
      omega
    · omega
  · rintro ⟨k, q', p, x', h1, h2, h3, h4, h5, h6⟩
    exact ⟨k, q', p, x', h1, h2, by omega, h4, h5, h6⟩
theorem MarkB.none {rs : List Rule} {nl : List Bool} {m : Nat} {back : Bool} (a b : Nat) : ¬ MarkB rs nl m back 0 0 a b := by
  rintro ⟨k, q', p, x', h1, h2, h3, h4, h5, h6⟩
  omega
/-- All rules are done: the steps. -/
theorem MarkB.all {g : Gram} {n : Nat} {L : List Int} {m : Nat} {back : Bool} (hL : LFix g n L) (hr : RulesIn g n) (a b : Nat) : MarkB g.rules (nullB L) m back g.rules.length 0 a b ↔ EdgB g m back a b := by
  have hem : ∀ q ∈ g.rules, ∀ p, emptyB (nullB L) (restOf back q.right p) = true ↔ Nuls g (restOf back q.right p) := fun q hq p => by
    have hsub : ∀ s ∈ restOf back q.right p, s ∈ q.right := fun s hs => by
      unfold restOf at hs
      split at hs
      · exact List.mem_of_mem_drop hs
      · exact List.mem_of_mem_take hs
    rw [emptyB_iff]
    constructor
    · intro h s hs
      have h1 := h s hs
      exact ⟨h1.1, (hL.nullB hr (((hr q hq).2.2.2 s (hsub s hs)).2 h1.1)).1 h1.2⟩
    · intro h s hs
      have h1 := h s hs
      exact ⟨h1.1, (hL.nullB hr (((hr q hq).2.2.2 s (hsub s hs)).2 h1.1)).2 h1.2⟩
  constructor
  · rintro ⟨k, q, p, x, h1, h2, h3, h4, h5, h6⟩
    have hm := List.mem_of_getElem? h1
    exact ⟨q, p, x, hm, h2, (hem q hm p).1 h4, h5, h6⟩
  · rintro ⟨q, p, x, hm, h2, h4, h5, h6⟩
    obtain ⟨k, hk⟩ := List.mem_iff_getElem?.1 hm
    exact ⟨k, q, p, x, hk, h2, .inl (List.getElem?_eq_some_iff.1 hk).1, (hem q hm p).2 h4, h5, h6⟩
theorem Wk.edges {g : Gram} {m : Nat} {back : Bool} {f : List (List Bool)} (h : ∀ a b, Gt f a b ↔ EdgB g m back a b) (a b : Nat) : Wk f a b ↔ WkB g m back a b := by
  constructor
  · intro hw
    induction hw with
    | refl => exact .refl
    | snoc x y _ hs ih => exact .snoc x y ih ((h x y).1 hs)
  · intro hw
    induction hw with
    | refl => exact .refl
    | snoc x y _ hs ih => exact .snoc x y ih ((h x y).2 hs)
theorem Els.takeSym {w : World} {S : Nat → Prop} {xs : List Sym} {A : Option Addr} (h : Els w S xs A) (n : Nat) : Els w S (xs.take n) A := by
  intro hne
  obtain ⟨b', o', e, hS, hx⟩ := h (by rintro rfl; simp at hne)
  refine ⟨b', o', e, hS, fun i y hi => hx i y ?_⟩
  rw [List.getElem?_take] at hi
  split at hi
  · exact hi
  · cases hi

def ReM (N bf : Nat) (w2 : World) (i : Value) (wr : World) : Prop :=
  ∃ (k : Nat) (bs : List Nat), k ≤ N ∧ i = .int .i64 k ∧ bs.length = k ∧ RowP wr bf N N bs (List.replicate k (List.replicate N false)) ∧ Kept (fun b => b = bf) w2 wr
def ReR (rs : List Rule) (nl : List Bool) (m N bf : Nat) (bs : List Nat) (back : Bool) (w3 : World) (i : Value) (wr : World) : Prop :=
  ∃ (j : Nat) (f : List (List Bool)), j ≤ rs.length ∧ i = .int .i64 j ∧ RowsM wr bf bs N N N f ∧ (∀ a b, Gt f a b ↔ MarkB rs nl m back j 0 a b) ∧ Kept (fun b => b ∈ bs) w3 wr
def ReS (rs : List Rule) (nl : List Bool) (m N bf : Nat) (bs : List Nat) (back : Bool) (j : Nat) (qr : List Sym) (w4 : World) (i : Value) (wr : World) : Prop :=
  ∃ (p : Nat) (f : List (List Bool)), p ≤ qr.length ∧ i = .int .i64 p ∧ RowsM wr bf bs N N N f ∧ (∀ a b, Gt f a b ↔ MarkB rs nl m back j p a b) ∧ Kept (fun b => b ∈ bs) w4 wr
def RetEdg (g : Gram) (m N : Nat) (back : Bool) (w : World) (e : Ending) (w' : World) : Prop :=
  ∃ bf bs f, e = .returned (.slice (some ⟨bf, 0, none⟩) N N) ∧ RowsM w' bf bs N N N f ∧ (∀ a b, a < N → (Gt f a b ↔ WkB g m back a b)) ∧ (∀ b ∈ bf :: bs, w.heap.size ≤ b) ∧ Below w.heap.size w w'

set_option maxRecDepth 100000 in
set_option maxHeartbeats 4000000 in
theorem redges_any (g : Gram) (m n N : Nat) (back : Bool) (A : Option Addr) (c : Nat) (S : Nat → Prop) (w : World) (L : List Int) (hgt : g.terms = (m : Int)) (hgn : g.nons = (n : Int)) (hN : N = m + n) (hck : checkI g = 0) (hlc : g.rules.length ≤ c) (hc : c ≤ 9223372036854775807) (hA : Els w S g.rules A) (hS : ∀ b, S b → b < w.heap.size) (hL : LFix g n L) :
    Calls Tryd.prog 38 #[.agg #[.int .i64 g.terms, .int .i64 g.nons, .int .i64 g.start, .slice A g.rules.length c], .bool back] w (RetEdg g m N back w) := by
  have hv := validG_of hck
  have hri := hv.rulesIn hgn
  have hall := fun a b => @MarkB.all g n L m back hL hri a b
  have hsi := fun q hq s hs => hv.symIn hgt q hq s hs
  obtain ⟨gt, gn, gs, rs⟩ := g
  dsimp only at *
  subst hgt; subst hgn
  have hn : 1 ≤ n ∧ n ≤ 10 := by have := hv.n1; have := hv.n10; dsimp only at *; omega
  have hm : 1 ≤ m ∧ m ≤ 8 := by have := hv.t1; have := hv.t8; dsimp only at *; omega
  have hrl : rs.length ≤ 32 := hv.len
  have HN := Lib.hid hn
  have HRI := Lib.hid hri
  have HSI := Lib.hid hsi
  have HAll := Lib.hid hall
  have HA := Lib.hid hA
  have HS := Lib.hid hS
  have HL := Lib.hid hL
  have hll : (nullB L).length = n := by unfold nullB; rw [List.length_map]; exact hL.shape.len
  have hmk : ∀ W : World, (Instr.makeSlice 71 (.int .i64 ((m : Int) + (n : Int))) (.int .i64 ((m : Int) + (n : Int)))).run Tryd.prog W = .ok (.slice (some ⟨W.heap.size, 0, none⟩) N N) (W.alloc (.cells (scells [] 0 N) 66)) := fun W => by have h := mkRows N (by omega) W; rw [hN] at h ⊢; push_cast at h; exact h
  have hmk2 := mkBools N (by omega)
  have hn18 : N ≤ 18 := by omega
  have HNN := Lib.hid hN
  have hm8 : (m : Int) ≤ 8 := by omega
  have hn10 : (n : Int) ≤ 10 := by omega
  have hba : Below w.heap.size w (w.alloc (.cells #[.int .i64 (m : Int), .int .i64 (n : Int), .int .i64 gs, .slice A rs.length c] 24)) := (Below.refl _ _).alloc (Nat.le_refl _) _
  have HBa := Lib.hid hba
  have HGa := Lib.hid (Blk'.new w 24 #[.int .i64 (m : Int), .int .i64 (n : Int), .int .i64 gs, .slice A rs.length c])
  clear hv hri hall hsi hA hS hL hba hn hN
  go_enter Tryd.func38, Tryd.ntmps38
  go_wp2_with fail
  refine (rnulls_any ⟨(m : Int), (n : Int), gs, rs⟩ n A c S _ L rfl HN.out hlc hc (HA.out.below HBa.out) (fun b hb => by have := HS.out b hb; simp; omega) (by show rs.length ≤ 1000; omega) HRI.out HL.out).mono ?_
  rintro e w1 ⟨nb, rfl, hNb, hNge, hb1⟩
  have H1 := Lib.hid (And.intro (bthen HBa.out hb1 HBa.out.size) (And.intro (HGa.out.below hb1 HGa.out.lt) hNb))
  have hNw : w.heap.size < nb := by simp at hNge; omega
  obtain ⟨w2, hw2⟩ : ∃ w2 : World, w2 = w1.alloc (.cells (scells [] 0 N) 66) := ⟨_, rfl⟩
  have hb2 : Below w1.heap.size w1 w2 := by rw [hw2]; exact (Below.refl _ _).alloc (Nat.le_refl _) _
  have H2 : Hid (Below w.heap.size w w2 ∧ Blk' w2 w.heap.size 24 #[.int .i64 (m : Int), .int .i64 (n : Int), .int .i64 gs, .slice A rs.length c] ∧ Blk' w2 nb 4 (bcells (nullB L)) ∧ Blk' w2 w1.heap.size 66 (scells [] 0 N)) :=
    Lib.hid ⟨bthen H1.out.1 hb2 H1.out.1.size, H1.out.2.1.below hb2 H1.out.2.1.lt, H1.out.2.2.below hb2 H1.out.2.2.lt, by rw [hw2]; exact Blk'.new _ _ _⟩
  have HW2 := Lib.hid hw2
  have g0 : w1.cell? ⟨w.heap.size, 0, none⟩ = some (.int .i64 (m : Int)) := H1.out.2.1.cell 0
  have g1 : w1.cell? ⟨w.heap.size, 1, none⟩ = some (.int .i64 (n : Int)) := H1.out.2.1.cell 1
  have zG : w.heap.size < w1.heap.size := H1.out.2.1.lt
  have hnb1 : nb < w1.heap.size := H1.out.2.2.lt
  clear hNb hb1 hw2 hb2 hNge HBa HGa
  go_upto_region 3 with (fail)
  rw [← HW2.out]
  clear g0 g1 H1
  go_wp2_with fail
  go_loopw [23] (fun i wr => ReM N w1.heap.size w2 i wr) (fun i _ => N - (intOf i).toNat)
  case atStart => exact ⟨0, [], Nat.zero_le _, rfl, rfl, RowP.start N H2.out.2.2.2, Kept.refl _ _⟩
  case round =>
    obtain ⟨wo, hwo⟩ : ∃ wo : World, wo = wr := ⟨_, rfl⟩
    subst hwo
    obtain ⟨k, bs, hk, rfl, hbl, hP, hkp⟩ := hrel
    have HP := Lib.hid hP
    have HK := Lib.hid hkp
    have zF := hP.outer.lt
    have hzo := hkp.size
    clear hP hkp
    by_cases hkn : k < N
    · have hk0 : (0 : Int) ≤ (k : Int) := by omega
      have hk9 : (k : Int) < (N : Int) := by omega
      have c0 : wo.cell? ⟨w1.heap.size, k, none⟩ = some (.slice none 0 0) := (HP.out.outer.cell k).trans (scells_nil (by omega) hkn)
      have f0 := HP.out.outer.frozen k
      have HBl := Lib.hid hbl
      have HK2 : Hid (Kept (fun b => b = w1.heap.size) wo ((wo.setCell ⟨w1.heap.size, k, none⟩ (.slice (some ⟨wo.heap.size, 0, none⟩) N N)).alloc (.cells (bcells (List.replicate N false)) 4))) := Lib.hid (((Kept.refl (fun b => b = w1.heap.size) wo).setCell (p := ⟨w1.heap.size, k, none⟩) (.inl rfl) _).alloc _)
      have HN2 : Hid (RowP ((wo.setCell ⟨w1.heap.size, k, none⟩ (.slice (some ⟨wo.heap.size, 0, none⟩) N N)).alloc (.cells (bcells (List.replicate N false)) 4)) w1.heap.size N N (bs ++ [wo.heap.size]) (List.replicate (k + 1) (List.replicate N false))) := Lib.hid (by
        rw [List.replicate_succ']
        refine HP.out.next (by omega) HK2.out ?_ (Blk'.new' _ _ _ (by simp [World.setCell])) (by simp) (Nat.le_refl _)
        rw [← scells_set (by omega), hbl]
        exact (HP.out.outer.set_ k _).alloc _)
      have zF2 : w1.heap.size < wo.heap.size + 1 := by omega
      clear hbl
      go_wp2
      go_roundw
      case rel => exact ⟨k + 1, bs ++ [wo.heap.size], hkn, by go_num, by simp [HBl.out], HN2.out, HK.out.trans HK2.out⟩
      case measure => simp [intOf]; omega
    · have hkk : k = N := by omega
      have HRM : Hid (RowsM wo w1.heap.size bs N N N (List.replicate N (List.replicate N false))) := Lib.hid (by have h := HP.out.done (by omega) (by omega); rw [hkk] at h; exact h)
      have HBs : Hid (∀ b ∈ bs, w1.heap.size < b) := Lib.hid (fun b hb => (HP.out.lt b hb).1)
      have HG3 := Lib.hid (H2.out.2.1.kept HK.out (by omega))
      have HN3 := Lib.hid (H2.out.2.2.1.kept HK.out (by omega))
      have HB3 := Lib.hid (bthen H2.out.1 (HK.out.to_below (B := w.heap.size) (fun b hb => by omega) H2.out.1.size) (Nat.le_refl _))
      have HZ : Hid (∀ a b, Gt (List.replicate N (List.replicate N false)) a b ↔ MarkB rs (nullB L) m back 0 0 a b) := Lib.hid (fun a b => ⟨fun h => by
        unfold Gt at h
        rw [List.getD_eq_getElem?_getD, List.getElem?_replicate] at h
        split at h
        · simp [List.getElem?_replicate] at h
        · simp at h, fun h => absurd h (MarkB.none a b)⟩)
      have g3 : wo.cell? ⟨w.heap.size, 3, none⟩ = some (.slice A rs.length c) := HG3.out.cell 3
      have zGo := HG3.out.lt
      have hrl9 : rs.length ≤ 9223372036854775807 := by omega
      clear H2 HP HK HW2
      go_wp2_with fail
      clear hkk hkn hk
      go_loopw [36] (fun i wr => ReR rs (nullB L) m N w1.heap.size bs back wo i wr) (fun i _ => rs.length - (intOf i).toNat)
      case atStart => exact ⟨0, _, Nat.zero_le _, rfl, HRM.out, HZ.out, Kept.refl _ _⟩
      case round =>
        obtain ⟨wi, hwi⟩ : ∃ wi : World, wi = wr := ⟨_, rfl⟩
        subst hwi
        obtain ⟨j, f, hj, rfl, hR, hM, hkp⟩ := hrel
        have HR := Lib.hid hR
        have HM := Lib.hid hM
        have HK := Lib.hid hkp
        have hzi := hkp.size
        have HGi := Lib.hid (HG3.out.kept hkp (fun h => by have := HBs.out _ h; omega))
        have HNi := Lib.hid (HN3.out.kept hkp (fun h => by have := HBs.out _ h; omega))
        clear hR hM hkp g3
        by_cases hlt : j < rs.length
        · obtain ⟨q, hq⟩ := get_some hlt
          obtain ⟨bq, oq, Aq, cq, eA, hSb, hbs, hi, hrc, hcr, hEr, hc0, hc1⟩ := ((HA.out.belowB HB3.out HS.out).kept HK.out (fun b hb e => by have := HS.out b hb; have := HBs.out _ e; omega)).rule hq
          subst eA
          obtain ⟨hl0, hl1, hr4, hsy⟩ := HRI.out q (List.mem_of_getElem? hq)
          have HQ := Lib.hid (And.intro hq (And.intro hsy (List.mem_of_getElem? hq)))
          obtain ⟨ql, qr⟩ := q
          dsimp only at hi hrc hcr hEr hc0 hc1 hl0 hl1 hr4 hsy
          obtain ⟨y0, rfl⟩ : ∃ y0 : Nat, ql = (y0 : Int) := ⟨ql.toNat, by omega⟩
          have hy0 : y0 < n := by omega
          have hj0 : (0 : Int) ≤ (j : Int) := by omega
          obtain ⟨w4, hw4⟩ : ∃ w4 : World, w4 = wi.alloc (.cells #[.int .i64 (y0 : Int), .slice Aq qr.length cq] 49) := ⟨_, rfl⟩
          have hb4 : Below wi.heap.size wi w4 := by rw [hw4]; exact (Below.refl _ _).alloc (Nat.le_refl _) _
          have HQ4 : Hid (Blk' w4 wi.heap.size 49 #[.int .i64 (y0 : Int), .slice Aq qr.length cq]) := Lib.hid (by rw [hw4]; exact Blk'.new _ _ _)
          have HE4 := Lib.hid (hEr.below hb4)
          have HR4 := Lib.hid (HR.out.below hb4)
          have HG4 := Lib.hid (HGi.out.below hb4 HGi.out.lt)
          have HN4 := Lib.hid (HNi.out.below hb4 HNi.out.lt)
          have HK4 := Lib.hid (HK.out.below hb4)
          have HW4 := Lib.hid hw4
          have HBi : Hid (∀ b ∈ bs, b < wi.heap.size) := Lib.hid (fun b hb => HR.out.lt b (by simp [hb]))
          have q1 : w4.cell? ⟨wi.heap.size, 1, none⟩ = some (.slice Aq qr.length cq) := HQ4.out.cell 1
          have z4 : wi.heap.size < w4.heap.size := HQ4.out.lt
          have hqlen : qr.length ≤ 9223372036854775807 := by omega
          have zGi := HGi.out.lt
          clear hq hsy hw4 hb4 hEr hi
          go_upto_region 11 with (fail)
          rw [← HW4.out]
          go_wp2_with fail
          go_loopw [43] (fun i wr => ReS rs (nullB L) m N w1.heap.size bs back j qr w4 i wr) (fun i _ => qr.length - (intOf i).toNat)
          case atStart => exact ⟨0, f, Nat.zero_le _, rfl, HR4.out, HM.out, Kept.refl _ _⟩
          case round =>
            obtain ⟨wz, hwz⟩ : ∃ wz : World, wz = wr := ⟨_, rfl⟩
            subst hwz
            obtain ⟨p, f', hp, rfl, hR, hM', hkp⟩ := hrel
            have HRz := Lib.hid hR
            have HMz := Lib.hid hM'
            have HKz := Lib.hid hkp
            have hzz := hkp.size
            have hQz := HQ4.out.kept hkp (fun h => by have := HBi.out _ h; omega)
            have HQz := Lib.hid hQz
            have q1z : wz.cell? ⟨wi.heap.size, 1, none⟩ = some (.slice Aq qr.length cq) := hQz.cell 1
            have zQz := hQz.lt
            clear hR hM' hkp hQz q1
            by_cases hpl : p < qr.length
            · obtain ⟨x, hx⟩ := get_some hpl
              have hEz := HE4.out.kept HKz.out (fun b hb e => by have := HS.out b hb; have := HBs.out _ e; omega)
              obtain ⟨bx, ox, eA, hSx, hbx, hxi, hxc0, hxc1⟩ := hEz.sym hx
              subst eA
              have hsr := HQ.out.2.1 x (List.mem_of_getElem? hx)
              have hsin := HSI.out _ HQ.out.2.2 x (List.mem_of_getElem? hx)
              have HX := Lib.hid hx
              obtain ⟨st, sn⟩ := x
              dsimp only at hxi hxc0 hxc1 hsr hsin
              have hp0 : (0 : Int) ≤ (p : Int) := by omega
              have hsn := hsr.1
              obtain ⟨v0, rfl⟩ : ∃ v0 : Nat, sn = (v0 : Int) := ⟨sn.toNat, by omega⟩
              obtain ⟨nd, hnd1, hnd2, hndN⟩ : ∃ nd : Nat, nodeI (m : Int) ⟨st, (v0 : Int)⟩ = (nd : Int) ∧ nodeS m ⟨st, (v0 : Int)⟩ = nd ∧ nd < N := by
                unfold nodeI nodeS
                cases st
                · refine ⟨m + v0, by simp, by simp, ?_⟩
                  have := hsr.2 rfl
                  have := HNN.out
                  omega
                · have h := hsin.2
                  simp at h
                  exact ⟨v0, by simp, by simp, by have := HNN.out; omega⟩
              have HNd := Lib.hid (And.intro hnd1 hnd2)
              have hv100 : v0 ≤ 1000 := by
                have h := hsin.2
                cases st
                · have := hsr.2 rfl; omega
                · simp at h; omega
              obtain ⟨ws, hws⟩ : ∃ ws : World, ws = wz.alloc (.cells #[.bool st, .int .i64 (v0 : Int)] 45) := ⟨_, rfl⟩
              have hbs2 : Below wz.heap.size wz ws := by rw [hws]; exact (Below.refl _ _).alloc (Nat.le_refl _) _
              have HSs : Hid (Blk' ws wz.heap.size 45 #[.bool st, .int .i64 (v0 : Int)]) := Lib.hid (by rw [hws]; exact Blk'.new _ _ _)
              have HEs := Lib.hid (hEz.below hbs2)
              have HRs := Lib.hid (HRz.out.below hbs2)
              have HKs := Lib.hid (HKz.out.below hbs2)
              have HWs := Lib.hid hws
              have q1s : ws.cell? ⟨wi.heap.size, 1, none⟩ = some (.slice (some ⟨bx, ox, none⟩) qr.length cq) := (HQz.out.below hbs2 HQz.out.lt).cell 1
              have zQs : wi.heap.size < ws.heap.size := by have := hbs2.size; omega
              have hEm : Hid (Els ws S (restOf false qr p) (some ⟨bx, ox, none⟩) ∧ (restOf false qr p).length = p) := Lib.hid ⟨by unfold restOf; exact HEs.out.takeSym p, by simp [restOf]; omega⟩
              have hEd : Hid (Els ws S (restOf true qr p) (some ⟨bx, ox + (p + 1) * 2, none⟩) ∧ (restOf true qr p).length = qr.length - (p + 1) ∧ (cq = p + 1 → ∀ B : Option Addr, Els ws S (restOf true qr p) B)) := Lib.hid ⟨by unfold restOf; exact HEs.out.dropSym (p + 1), by simp [restOf], fun h B => by
                have e : restOf true qr p = [] := by unfold restOf; exact List.drop_of_length_le (by omega)
                rw [e]
                exact fun h => absurd rfl h⟩
              clear hx hxi hws hbs2 hEz hsin hnd1 hnd2
              go_upto_region 14 with (fail)
              rw [← HWs.out]
              go_upto_if 52 with (fail)
              go_cut [12] (fun v wx => ∃ A' c', v = .slice A' (restOf back qr p).length c' ∧ Els ws S (restOf back qr p) A' ∧ ws = wx)
              case first =>
                have hwm : IntKind.i64.wrap ((p : Int) + 1) = (p : Int) + 1 := IntWalk.i64_in _ (by omega)
                have hi3 : (p : Int) + 1 ≤ (qr.length : Int) := by omega
                have hi4 : (p : Int) + 1 ≤ (cq : Int) := by omega
                cases back
                · go_wp2
                  go_meet
                  exact ⟨_, _, by rw [hEm.out.2], hEm.out.1, rfl⟩
                · rcases Classical.em (cq = p + 1) with hcap | hcap
                  · have hce : (cq = p + 1) = True := by simp [hcap]
                    have HCap := Lib.hid hcap
                    clear hcap
                    go_wp2
                    go_meet
                    exact ⟨_, _, by rw [hEd.out.2.1], by first | exact hEd.out.1 | exact hEd.out.2.2 HCap.out _, rfl⟩
                  · have hce : (cq = p + 1) = False := by simp [hcap]
                    go_wp2
                    go_meet
                    exact ⟨_, _, by rw [hEd.out.2.1], hEd.out.1, rfl⟩
              case rest =>
              obtain ⟨A', c', rfl, hEl, hwx⟩ := hcut
              subst hwx
              have HEl := Lib.hid hEl
              clear hEl
              have hsub : ∀ s ∈ restOf back qr p, s ∈ qr := fun s hs => by
                unfold restOf at hs
                split at hs
                · exact List.mem_of_mem_drop hs
                · exact List.mem_of_mem_take hs
              have hrl2 : (restOf back qr p).length ≤ 1000 := by
                unfold restOf
                split
                · rw [List.length_drop]; omega
                · rw [List.length_take]; omega
              have HSub := Lib.hid hsub
              clear hsub
              go_wp2_with fail
              refine (rempty_any nb n _ c' (nullB L) (restOf back qr p) A' S _ ((HN4.out.kept HKz.out (fun h => by have := HBs.out _ h; omega)).below (by rw [HWs.out]; exact (Below.refl _ _).alloc (Nat.le_refl _) _) (HN4.out.kept HKz.out (fun h => by have := HBs.out _ h; omega)).lt) hll rfl (by omega) (fun s hs => HQ.out.2.1 s (HSub.out s hs)) HEl.out).mono ?_
              rintro e w5 ⟨rfl, hb5⟩
              have hG5 := (HG4.out.kept HKs.out (fun h => by have := HBs.out _ h; omega)).below hb5 (HG4.out.kept HKs.out (fun h => by have := HBs.out _ h; omega)).lt
              have hQ5 := (HQ4.out.kept HKs.out (fun h => by have := HBi.out _ h; omega)).below hb5 (HQ4.out.kept HKs.out (fun h => by have := HBi.out _ h; omega)).lt
              have hS5 := HSs.out.below hb5 HSs.out.lt
              have HR5 := Lib.hid (HRs.out.below hb5)
              have HK5 := Lib.hid (HKs.out.below hb5)
              cases he : emptyB (nullB L) (restOf back qr p)
              · have HMn : Hid (∀ a b, Gt f' a b ↔ MarkB rs (nullB L) m back j (p + 1) a b) := Lib.hid (fun a b => by rw [HMz.out a b]; exact (MarkB.miss HQ.out.1 he a b).symm)
                clear he hb5 hG5 hQ5 hS5
                go_wp2
                go_roundw
                case rel => exact ⟨p + 1, f', hpl, by go_num, HR5.out, HMn.out, HK5.out⟩
                case measure => simp [intOf]; omega
              · obtain ⟨br, hbr⟩ := get_some (show m + y0 < bs.length by rw [HR5.out.blen]; have := HNN.out; omega)
                obtain ⟨row, hrow, hrg, hrlen⟩ := (WarS.of_rows HR5.out).get (show m + y0 < N by have := HNN.out; omega)
                have hBr := (HR5.out.rows _ br row hbr hrow).1
                obtain ⟨yv, hyv⟩ := get_some (show nd < row.length by omega)
                have HMn : Hid (∀ a b, Gt (f'.set (m + y0) (row.set nd true)) a b ↔ MarkB rs (nullB L) m back j (p + 1) a b) := Lib.hid (fun a b => by
                  have h1 := gt_set (WarS.of_rows HR5.out) (show m + y0 < N by have := HNN.out; omega) hndN a b
                  rw [hrg] at h1
                  have h2 := MarkB.hit (m := m) (nl := nullB L) (back := back) HQ.out.1 HX.out he a b
                  rw [h1, h2, HMz.out a b, HNd.out.2]
                  exact Iff.rfl)
                have a0 : w5.cell? ⟨w.heap.size, 0, none⟩ = some (.int .i64 (m : Int)) := hG5.cell 0
                have a1 : w5.cell? ⟨w.heap.size, 1, none⟩ = some (.int .i64 (n : Int)) := hG5.cell 1
                have a2 : w5.cell? ⟨w.heap.size, 2, none⟩ = some (.int .i64 gs) := hG5.cell 2
                have a3 : w5.cell? ⟨w.heap.size, 3, none⟩ = some (.slice (some ⟨bq, oq, none⟩) rs.length c) := hG5.cell 3
                have a4 : w5.cell? ⟨wi.heap.size, 0, none⟩ = some (.int .i64 (y0 : Int)) := hQ5.cell 0
                have a5 : w5.cell? ⟨w1.heap.size, m + y0, none⟩ = some (.slice (some ⟨br, 0, none⟩) N N) := HR5.out.outer _ br hbr
                have a6 : w5.cell? ⟨wz.heap.size, 0, none⟩ = some (.bool st) := hS5.cell 0
                have a7 : w5.cell? ⟨wz.heap.size, 1, none⟩ = some (.int .i64 (v0 : Int)) := hS5.cell 1
                have zG5 := hG5.lt
                have zQ5 := hQ5.lt
                have zS5 := hS5.lt
                have zF5 : w1.heap.size < w5.heap.size := HR5.out.bflt
                have HBr := Lib.hid (And.intro hbr (And.intro hBr (And.intro hrlen hyv)))
                have zR5 := hBr.lt
                have hm0 : 0 ≤ (m : Int) ∧ (m : Int) ≤ 1000 := by omega
                have hv0 : 0 ≤ (v0 : Int) ∧ (v0 : Int) ≤ 1000 := by omega
                have HMV := Lib.hid (And.intro hm0 hv0)
                have hnd9 : (nd : Int) < (N : Int) := by omega
                have hidx : (m : Int) + (y0 : Int) < (N : Int) := by have := HNN.out; omega
                have hidx0 : 0 ≤ (m : Int) + (y0 : Int) := by omega
                have hto : ((m : Int) + (y0 : Int)).toNat = m + y0 := by omega
                have hwr : IntKind.i64.wrap ((m : Int) + (y0 : Int)) = (m : Int) + (y0 : Int) := IntWalk.i64_in _ (by omega)
                clear he hb5 hG5 hQ5 hS5 hbr hrow hrg hBr hyv hrlen hm0 hv0
                go_wp2_with fail
                go_region_held3 (fun w' => w'.cell? ⟨w.heap.size, 0, none⟩ = some (.int .i64 (m : Int)) ∧ w'.cell? ⟨w.heap.size, 1, none⟩ = some (.int .i64 (n : Int)) ∧ w'.cell? ⟨w.heap.size, 2, none⟩ = some (.int .i64 gs) ∧ w'.cell? ⟨w.heap.size, 3, none⟩ = some (.slice (some ⟨bq, oq, none⟩) rs.length c) ∧ w'.cell? ⟨wi.heap.size, 0, none⟩ = some (.int .i64 (y0 : Int)) ∧ w'.cell? ⟨w1.heap.size, m + y0, none⟩ = some (.slice (some ⟨br, 0, none⟩) N N) ∧ w'.cell? ⟨wz.heap.size, 0, none⟩ = some (.bool st) ∧ w'.cell? ⟨wz.heap.size, 1, none⟩ = some (.int .i64 (v0 : Int))) (go_keep)
                  (first
                  | (go_at_call 40
                     refine (rnode_any (m : Int) (n : Int) gs _ ⟨st, (v0 : Int)⟩ _ ⟨_, _, _, rfl⟩ HMV.out.1 HMV.out.2).mono ?_
                     rintro e w6 ⟨rfl, hb6⟩
                     rw [HNd.out.1]
                     have H6 := Lib.hid (((Below.refl w5.heap.size w5).drew).trans hb6)
                     have b0 := (H6.out.cell (p := ⟨w.heap.size, 0, none⟩) zG5).trans a0
                     have b1 := (H6.out.cell (p := ⟨w.heap.size, 1, none⟩) zG5).trans a1
                     have b2 := (H6.out.cell (p := ⟨w.heap.size, 2, none⟩) zG5).trans a2
                     have b3 := (H6.out.cell (p := ⟨w.heap.size, 3, none⟩) zG5).trans a3
                     have b4 := (H6.out.cell (p := ⟨wi.heap.size, 0, none⟩) zQ5).trans a4
                     have b5 := (H6.out.cell (p := ⟨w1.heap.size, m + y0, none⟩) zF5).trans a5
                     have b6 := (H6.out.cell (p := ⟨wz.heap.size, 0, none⟩) zS5).trans a6
                     have b7 := (H6.out.cell (p := ⟨wz.heap.size, 1, none⟩) zS5).trans a7
                     have hBr6 := HBr.out.2.1.below H6.out HBr.out.2.1.lt
                     have r6 : w6.cell? ⟨br, nd, none⟩ = some (.bool yv) := (hBr6.cell _).trans (bcells_get HBr.out.2.2.2)
                     have fr6 := hBr6.frozen nd
                     have zR6 := hBr6.lt
                     have HBr6 := Lib.hid hBr6
                     have hz6 := H6.out.size
                     have zG6 : w.heap.size < w6.heap.size := by omega
                     have zQ6 : wi.heap.size < w6.heap.size := by omega
                     have zF6 : w1.heap.size < w6.heap.size := by omega
                     have zS6 : wz.heap.size < w6.heap.size := by omega
                     have hbm := List.mem_of_getElem? HBr.out.1
                     have hg1 := HBs.out br hbm
                     have hg2 := HBi.out br hbm
                     have n0 : ¬ w.heap.size = br := by omega
                     have n1 : ¬ wi.heap.size = br := by omega
                     have n2 : ¬ w1.heap.size = br := by omega
                     have n3 : ¬ wz.heap.size = br := by omega
                     have HK6 := Lib.hid ((Kept.refl (fun b => b = br) w6).setCell (p := ⟨br, nd, none⟩) (.inl rfl) (.bool true))
                     have d0 := (HK6.out.cell (p := ⟨w.heap.size, 0, none⟩) zG6 n0).trans b0
                     have d1 := (HK6.out.cell (p := ⟨w.heap.size, 1, none⟩) zG6 n0).trans b1
                     have d2 := (HK6.out.cell (p := ⟨w.heap.size, 2, none⟩) zG6 n0).trans b2
                     have d3 := (HK6.out.cell (p := ⟨w.heap.size, 3, none⟩) zG6 n0).trans b3
                     have d4 := (HK6.out.cell (p := ⟨wi.heap.size, 0, none⟩) zQ6 n1).trans b4
                     have d5 := (HK6.out.cell (p := ⟨w1.heap.size, m + y0, none⟩) zF6 n2).trans b5
                     have d6 := (HK6.out.cell (p := ⟨wz.heap.size, 0, none⟩) zS6 n3).trans b6
                     have d7 := (HK6.out.cell (p := ⟨wz.heap.size, 1, none⟩) zS6 n3).trans b7
                     clear hBr6 hb6 hbm))
                go_wp2_with fail
                go_roundw
                case rel => exact ⟨p + 1, _, hpl, by go_num, (HR5.out.below H6.out).setRow HBr.out.1 ((Kept.refl (fun b => b = br) w6).setCell (p := ⟨br, nd, none⟩) (.inl rfl) _) (by rw [← bcells_set]; exact HBr6.out.set_ nd _) (by rw [List.length_set]; exact HBr.out.2.2.1), HMn.out, (HK5.out.below H6.out).setCell (p := ⟨br, nd, none⟩) (.inl (List.mem_of_getElem? HBr.out.1)) _⟩
                case measure => simp [intOf]; omega
            · have hpp : p = qr.length := by omega
              have HNx : Hid (∀ a b, Gt f' a b ↔ MarkB rs (nullB L) m back (j + 1) 0 a b) := Lib.hid (fun a b => by rw [HMz.out a b, hpp]; exact (MarkB.next HQ.out.1 a b).symm)
              go_wp2
              go_roundw
              case rel => exact ⟨j + 1, f', hlt, by go_num, HRz.out, HNx.out, HK4.out.trans HKz.out⟩
              case measure => simp [intOf]; omega
        · have hjj : j = rs.length := by omega
          have HMe : Hid (∀ a b, Gt f a b ↔ EdgB ⟨(m : Int), (n : Int), gs, rs⟩ m back a b) := Lib.hid (fun a b => by rw [HM.out a b, hjj]; exact HAll.out a b)
          go_wp2_with fail
          refine (rclosure_any w1.heap.size N N bs f _ (by omega) HR.out).mono ?_
          rintro e w9 ⟨rfl, hR9, hk9⟩
          have HE9 := Lib.hid (And.intro hR9 hk9)
          have HC9 := Lib.hid (closeR_get (WarS.of_rows HR.out))
          have HB9 := Lib.hid (bthen (bthen HB3.out (HK.out.to_below (B := w.heap.size) (fun b hb => by have := HBs.out b hb; omega) HB3.out.size) (Nat.le_refl _)) (hk9.to_below (B := w.heap.size) (fun b hb => by have := HBs.out b hb; omega) (by omega)) (Nat.le_refl _))
          clear hR9 hk9
          go_wp2
          go_ret
          exact ⟨w1.heap.size, bs, _, rfl, HE9.out.1, fun a b ha => (HC9.out.2 a ha b).trans (Wk.edges HMe.out a b), fun b hb => by
            rcases List.mem_cons.1 hb with rfl | hb
            · omega
            · have := HBs.out b hb; omega, HB9.out⟩
end Go.Proofs.YtagcnhiinmiklaaDoor
