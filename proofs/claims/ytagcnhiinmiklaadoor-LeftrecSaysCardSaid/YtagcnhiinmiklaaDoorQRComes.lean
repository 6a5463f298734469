/- Contract: parlref2.comes: for each number of steps, whether rules that pass on lead from one nonterminal to another. -/
import Derived.Test.YtagcnhiinmiklaaDoorQRPass
import Derived.Test.YtagcnhiinmiklaaDoorQCycTab
import Derived.Test.YtagcnhiinmiklaaDoorQRowMk
import Derived.Test.YtagcnhiinmiklaaDoorQRulesIn
import Derived.Test.YtagcnhiinmiklaaDoorQCycLoopsP
import Derived.Deep.Cut
import Derived.IntWalk
namespace Go.Proofs.YtagcnhiinmiklaaDoor
open Go.RowKit
set_option linter.unusedVariables false

/-! ### Filling a row of the table for k + 1 steps -/
def FillC (g : Gram) (a : Nat) (Tp : List (List Bool)) (kk c u t : Nat) : Prop :=
  ∃ (k' c' : Nat) (q' : Rule) (row' : List Bool), g.rules[k']? = some q' ∧ q'.left = (a : Int) ∧ PassN g q' (c' : Int) ∧ Tp[c']? = some row' ∧ row'[t]? = some true ∧ (k' < kk ∨ (k' = kk ∧ (c' < c ∨ (c' = c ∧ t < u))))
section
variable {g : Gram} {a : Nat} {Tp : List (List Bool)} {kk c u : Nat} {q : Rule} {row : List Bool} {y : Bool}
theorem FillC.zero {t : Nat} : ¬ FillC g a Tp 0 0 0 t := by
  rintro ⟨k', c', q', row', _, _, _, _, _, h⟩
  omega
theorem FillC.cell (hq : g.rules[kk]? = some q) (hl : q.left = (a : Int)) (hp : PassN g q (c : Int)) (hr : Tp[c]? = some row) (hy : row[u]? = some y) (t : Nat) : FillC g a Tp kk c (u + 1) t ↔ FillC g a Tp kk c u t ∨ (t = u ∧ y = true) := by
  constructor
  · rintro ⟨k', c', q', row', h1, h2, h3, h4, h5, h6⟩
    by_cases e : k' = kk ∧ c' = c ∧ t = u
    · obtain ⟨rfl, rfl, rfl⟩ := e
      rw [hr] at h4
      injection h4 with h4
      subst h4
      rw [hy] at h5
      injection h5 with h5
      exact .inr ⟨rfl, h5⟩
    · exact .inl ⟨k', c', q', row', h1, h2, h3, h4, h5, by omega⟩
  · rintro (⟨k', c', q', row', h1, h2, h3, h4, h5, h6⟩ | ⟨rfl, rfl⟩)
    · exact ⟨k', c', q', row', h1, h2, h3, h4, h5, by omega⟩
    · exact ⟨kk, c, q, row, hq, hl, hp, hr, hy, by omega⟩
theorem FillC.place (hr : Tp[c]? = some row) (t : Nat) : FillC g a Tp kk (c + 1) 0 t ↔ FillC g a Tp kk c row.length t := by
  constructor
  · rintro ⟨k', c', q', row', h1, h2, h3, h4, h5, h6⟩
    refine ⟨k', c', q', row', h1, h2, h3, h4, h5, ?_⟩
    by_cases e : c' = c
    · subst e
      rw [hr] at h4
      injection h4 with h4
      subst h4
      have := (List.getElem?_eq_some_iff.1 h5).1
      omega
    · omega
  · rintro ⟨k', c', q', row', h1, h2, h3, h4, h5, h6⟩
    exact ⟨k', c', q', row', h1, h2, h3, h4, h5, by omega⟩
theorem FillC.skip (hq : g.rules[kk]? = some q) (hl : ¬ (q.left = (a : Int) ∧ PassN g q (c : Int))) (t : Nat) : FillC g a Tp kk (c + 1) 0 t ↔ FillC g a Tp kk c 0 t := by
  constructor
  · rintro ⟨k', c', q', row', h1, h2, h3, h4, h5, h6⟩
    refine ⟨k', c', q', row', h1, h2, h3, h4, h5, ?_⟩
    by_cases e : k' = kk ∧ c' = c
    · obtain ⟨rfl, rfl⟩ := e
      rw [hq] at h1
      injection h1 with h1
      subst h1
      exact absurd ⟨h2, h3⟩ hl
    · omega
  · rintro ⟨k', c', q', row', h1, h2, h3, h4, h5, h6⟩
    exact ⟨k', c', q', row', h1, h2, h3, h4, h5, by omega⟩
theorem FillC.rule (t : Nat) : FillC g a Tp (kk + 1) 0 0 t ↔ FillC g a Tp kk Tp.length 0 t := by
  constructor
  · rintro ⟨k', c', q', row', h1, h2, h3, h4, h5, h6⟩
    have := (List.getElem?_eq_some_iff.1 h4).1
    exact ⟨k', c', q', row', h1, h2, h3, h4, h5, by omega⟩
  · rintro ⟨k', c', q', row', h1, h2, h3, h4, h5, h6⟩
    exact ⟨k', c', q', row', h1, h2, h3, h4, h5, by omega⟩
end
def ComRows (g : Gram) (n k : Nat) (rows : List (List Bool)) : Prop := rows.length = n ∧ ∀ (a : Nat) (row : List Bool), rows[a]? = some row → row.length = n ∧ ∀ t, t < n → (row[t]? = some true ↔ Stp (PassE g) k a t)
def ComT (g : Gram) (n : Nat) (T : List (List (List Bool))) : Prop := ∀ (k : Nat) (rows : List (List Bool)), T[k]? = some rows → ComRows g n k rows
theorem FillC.all {g : Gram} {n k a : Nat} {Tp : List (List Bool)} (hp : PassIn g n) (hT : ComRows g n k Tp) (t : Nat) (ht : t < n) : FillC g a Tp g.rules.length 0 0 t ↔ Stp (PassE g) (k + 1) a t := by
  constructor
  · rintro ⟨k', c', q', row', h1, h2, h3, h4, h5, h6⟩
    exact ⟨c', ⟨q', List.mem_of_getElem? h1, h2, h3⟩, ((hT.2 c' row' h4).2 t ht).1 h5⟩
  · rintro ⟨c', ⟨q', h1, h2, h3⟩, h4⟩
    obtain ⟨k', hk⟩ := List.mem_iff_getElem?.1 h1
    have h5 := hp.tos q' h1 _ h3
    obtain ⟨row', hr⟩ := get_some (show c' < Tp.length by rw [hT.1]; omega)
    exact ⟨k', c', q', row', hk, h2, h3, hr, ((hT.2 c' row' hr).2 t ht).2 h4, .inl (List.getElem?_eq_some_iff.1 hk).1⟩
def TcO (g : Gram) (n : Nat) (w1 : World) (v i : Value) (wr : World) : Prop :=
  ∃ (k : Nat) (T : List (List (List Bool))), k ≤ n + 1 ∧ i = .int .i64 k ∧ Own wr (fun _ => False) w1.heap.size 71 v T ∧ T.length = k ∧ ComT g n T ∧ Below w1.heap.size w1 wr
def TcI (g : Gram) (n k R : Nat) (w2 : World) (i : Value) (wr : World) : Prop :=
  ∃ (j : Nat) (bs : List Nat) (f : List (List Bool)), j ≤ n ∧ i = .int .i64 j ∧ bs.length = j ∧ RowP wr R n n bs f ∧ (∀ (p : Nat) (row : List Bool), f[p]? = some row → row.length = n ∧ ∀ t, t < n → (row[t]? = some true ↔ Stp (PassE g) k p t)) ∧ Kept (fun b => b = R) w2 wr
def TcM (n R : Nat) (bs : List Nat) (f : List (List Bool)) (P : Nat → Nat → Prop) (X : World → Prop) (w2 : World) (m : Nat) (i : Value) (wr : World) : Prop :=
  ∃ (s : Nat) (row : List Bool), s ≤ m ∧ i = .int .i64 s ∧ row.length = n ∧ RowP wr R n n bs (f ++ [row]) ∧ (∀ t, t < n → (row[t]? = some true ↔ P s t)) ∧ Kept (fun b => b = R) w2 wr ∧ X wr
theorem RowP.below {w w' : World} {bf n m : Nat} {bs : List Nat} {f : List (List Bool)} (h : RowP w bf n m bs f) (hb : Below w.heap.size w w') : RowP w' bf n m bs f :=
  ⟨h.flen, h.le, h.outer.below hb h.outer.lt, fun i b row hi hr => ⟨(h.rows i b row hi hr).1.below hb (h.rows i b row hi hr).1.lt, (h.rows i b row hi hr).2⟩, fun b hbm => ⟨(h.lt b hbm).1, Nat.lt_of_lt_of_le (h.lt b hbm).2 hb.size⟩, h.nodup⟩

set_option maxRecDepth 100000 in
set_option maxHeartbeats 16000000 in
theorem comes_any (g : Gram) (m n : Nat) (A : Option Addr) (c : Nat) (S : Nat → Prop) (w : World) (L : List Int) (hgt : g.terms = (m : Int)) (hgn : g.nons = (n : Int)) (hck : checkI g = 0) (hlc : g.rules.length ≤ c) (hc : c ≤ 9223372036854775807) (hA : Els w S g.rules A) (hS : ∀ b, S b → b < w.heap.size) (hL : LFix g n L) :
    Calls Tryd.prog 34 #[.agg #[.int .i64 g.terms, .int .i64 g.nons, .int .i64 g.start, .slice A g.rules.length c]] w fun e w' => ∃ v T, e = .returned v ∧ T.length = n + 1 ∧ ComT g n T ∧ Own w' (fun _ => False) w.heap.size 71 v T ∧ Below w.heap.size w w' := by
  have hv := validG_of hck
  have hri := hv.rulesIn hgn
  have hpi := passIn_of hv hgn
  obtain ⟨gt, gn, gs, rs⟩ := g
  dsimp only at *
  subst hgt; subst hgn
  have hn : 1 ≤ n ∧ n ≤ 10 := by have := hv.n1; have := hv.n10; dsimp only at *; omega
  have hrl : rs.length ≤ 32 := hv.len
  have hrr4 : ∀ q ∈ rs, q.right.length ≤ 4 := fun q hq => (hv.rules q hq).2.2.1
  have hmk1 := mkRows n (by omega)
  have hmk2 := mkBools n (by omega)
  have HRR := Lib.hid hrr4
  have HRI := Lib.hid hri
  have HPI := Lib.hid hpi
  have HA := Lib.hid hA
  have HS := Lib.hid hS
  have HL := Lib.hid hL
  have hnl : (nullB L).length = n := by unfold nullB; rw [List.length_map]; exact hL.shape.len
  have HNl := Lib.hid hnl
  have HEq : Hid (∀ q ∈ rs, ∀ l : List Sym, (∀ s ∈ l, s ∈ q.right) → (emptyB (nullB L) l = true ↔ Nuls ⟨(m : Int), (n : Int), gs, rs⟩ l)) := Lib.hid (fun q hq l hl => by
    rw [emptyB_iff]
    constructor
    · intro h s hs
      have h1 := h s hs
      exact ⟨h1.1, (hL.nullB hri (((hri q hq).2.2.2 s (hl s hs)).2 h1.1)).1 h1.2⟩
    · intro h s hs
      have h1 := h s hs
      exact ⟨h1.1, (hL.nullB hri (((hri q hq).2.2.2 s (hl s hs)).2 h1.1)).2 h1.2⟩)
  have hn10 : (n : Int) ≤ 10 := by omega
  have hn1 := hn.1
  have hnb := hn.2
  have hw1 : IntKind.i64.wrap ((n : Int) + 1) = ((n + 1 : Nat) : Int) := by rw [IntWalk.i64_in _ (by omega)]; push_cast; rfl
  have HN := Lib.hid hn
  obtain ⟨w0, hw0⟩ : ∃ w0 : World, w0 = w.alloc (.cells #[.int .i64 (m : Int), .int .i64 (n : Int), .int .i64 gs, .slice A rs.length c] 24) := ⟨_, rfl⟩
  have hba : Below w.heap.size w w0 := by rw [hw0]; exact (Below.refl _ _).alloc (Nat.le_refl _) _
  have HBa := Lib.hid hba
  have HGa : Hid (Blk' w0 w.heap.size 24 #[.int .i64 (m : Int), .int .i64 (n : Int), .int .i64 gs, .slice A rs.length c]) := Lib.hid (by rw [hw0]; exact Blk'.new w _ _)
  have HW0 := Lib.hid hw0
  clear hw0 hba hA hS hri hpi hv hnl hL hrr4 hn
  go_enter Tryd.func34, Tryd.ntmps34
  go_upto_region 1 with (fail)
  rw [← HW0.out]
  have g0 : w0.cell? ⟨w.heap.size, 0, none⟩ = some (.int .i64 (m : Int)) := HGa.out.cell 0
  have g1 : w0.cell? ⟨w.heap.size, 1, none⟩ = some (.int .i64 (n : Int)) := HGa.out.cell 1
  have g2 : w0.cell? ⟨w.heap.size, 2, none⟩ = some (.int .i64 gs) := HGa.out.cell 2
  have g3 : w0.cell? ⟨w.heap.size, 3, none⟩ = some (.slice A rs.length c) := HGa.out.cell 3
  have zg : w.heap.size < w0.heap.size := HGa.out.lt
  go_wp2_with fail
  refine (rnulls_any ⟨(m : Int), (n : Int), gs, rs⟩ n A c S w0 L rfl HN.out hlc hc (HA.out.below HBa.out) (fun b hb => by have := HS.out b hb; omega) (by dsimp only; omega) HRI.out HL.out).mono ?_
  rintro e w1 ⟨nb, rfl, hnb1, hnb2, hb1⟩
  have HB1 := Lib.hid (bthen HBa.out hb1 HBa.out.size)
  have HG1 := Lib.hid (HGa.out.below hb1 HGa.out.lt)
  have HNb := Lib.hid hnb1
  have znb : nb < w1.heap.size := hnb1.lt
  have hznb : w0.heap.size ≤ nb := hnb2
  have a1 : w1.cell? ⟨w.heap.size, 1, none⟩ = some (.int .i64 (n : Int)) := HG1.out.cell 1
  have zg1 : w.heap.size < w1.heap.size := HG1.out.lt
  clear g0 g1 g2 g3 zg hnb1 hnb2 hb1
  go_wp2_with fail
  go_loopw [4, 17] (fun v i wr => TcO ⟨(m : Int), (n : Int), gs, rs⟩ n w1 v i wr) (fun _ i _ => n + 1 - (intOf i).toNat)
  case atStart => exact ⟨0, [], Nat.zero_le _, rfl, Own.nil _ _ _ _, rfl, (fun k rows h => by simp at h), Below.refl _ _⟩
  case round =>
    obtain ⟨wo, hwo⟩ : ∃ wo : World, wo = wr := ⟨_, rfl⟩
    subst hwo
    obtain ⟨k, T, hk, rfl, hown, hTl, hT, hb⟩ := hrel
    obtain ⟨AT, cT, rfl, hcT1, hcT2, _⟩ := hown.form
    have HO := Lib.hid hown
    have HT := Lib.hid hT
    have HTl := Lib.hid hTl
    have HB := Lib.hid hb
    have HGo := Lib.hid (HG1.out.below hb HG1.out.lt)
    have a1 : wo.cell? ⟨w.heap.size, 1, none⟩ = some (.int .i64 (n : Int)) := HGo.out.cell 1
    have zgo : w.heap.size < wo.heap.size := HGo.out.lt
    have hz1o : w1.heap.size ≤ wo.heap.size := hb.size
    clear hown hT hTl hb
    by_cases hkn : k < n + 1
    · have hk0 : (0 : Int) ≤ (k : Int) := by omega
      have hk9 : (k : Int) < ((n + 1 : Nat) : Int) := by omega
      obtain ⟨w2, hw2⟩ : ∃ w2 : World, w2 = wo.alloc (.cells (scells [] 0 n) 66) := ⟨_, rfl⟩
      have hb2 : Below wo.heap.size wo w2 := by rw [hw2]; exact (Below.refl _ _).alloc (Nat.le_refl _) _
      have HW2 := Lib.hid hw2
      have HB2 := Lib.hid hb2
      have HR2 : Hid (RowP w2 wo.heap.size n n [] []) := Lib.hid (RowP.start n (by rw [hw2]; exact Blk'.new _ _ _))
      have z2 : wo.heap.size < w2.heap.size := by rw [hw2]; simp
      obtain ⟨Tp, hTp⟩ : ∃ Tp : List (List Bool), Tp = T.getD (k - 1) [] := ⟨_, rfl⟩
      have HTp : Hid (k ≠ 0 → T[k - 1]? = some Tp ∧ ComRows ⟨(m : Int), (n : Int), gs, rs⟩ n (k - 1) Tp) := Lib.hid (fun h => by
        obtain ⟨rows, hr⟩ := get_some (show k - 1 < T.length by rw [HTl.out]; omega)
        have e : Tp = rows := by rw [hTp, List.getD_eq_getElem?_getD, hr]; rfl
        rw [e]
        exact ⟨hr, HT.out (k - 1) rows hr⟩)
      have HTE := Lib.hid (HO.out.vl.els.2.2.2.below hb2)
      clear hw2 hb2 hTp
      go_upto_region 7 with (fail)
      rw [← HW2.out]
      go_wp2_with fail
      clear a1
      go_loopw [25] (fun i wr => TcI ⟨(m : Int), (n : Int), gs, rs⟩ n k wo.heap.size w2 i wr) (fun i _ => n - (intOf i).toNat)
      case atStart => exact ⟨0, [], [], Nat.zero_le _, rfl, rfl, HR2.out, (fun p row h => by simp at h), Kept.refl _ _⟩
      case round =>
        obtain ⟨wi, hwi⟩ : ∃ wi : World, wi = wr := ⟨_, rfl⟩
        subst hwi
        obtain ⟨j, bs, f, hj, rfl, hbl, hR, hrows, hkp⟩ := hrel
        have HR := Lib.hid (show RowP wi wo.heap.size n n bs f from hR)
        have HRows := Lib.hid hrows
        have HK := Lib.hid hkp
        have HBl := Lib.hid hbl
        have HGi := Lib.hid ((HGo.out.below HB2.out HGo.out.lt).kept hkp (by omega))
        have zF := hR.outer.lt
        have hzi : w2.heap.size ≤ wi.heap.size := hkp.size
        by_cases hjn : j < n
        · have hj0 : (0 : Int) ≤ (j : Int) := by omega
          have hj9 : (j : Int) < (n : Int) := by omega
          obtain ⟨wj, hwj⟩ : ∃ wj : World, wj = (wi.setCell ⟨wo.heap.size, j, none⟩ (.slice (some ⟨wi.heap.size, 0, none⟩) n n)).alloc (.cells (bcells (List.replicate n false)) 4) := ⟨_, rfl⟩
          have c0 : wi.cell? ⟨wo.heap.size, j, none⟩ = some (.slice none 0 0) := (hR.outer.cell j).trans (scells_nil (by omega) hjn)
          have f0 := hR.outer.frozen j
          have HKj : Hid (Kept (fun b => b = wo.heap.size) wi wj) := Lib.hid (by rw [hwj]; exact ((Kept.refl (fun b => b = wo.heap.size) wi).setCell (p := ⟨wo.heap.size, j, none⟩) (.inl rfl) _).alloc _)
          have HRj : Hid (RowP wj wo.heap.size n n (bs ++ [wi.heap.size]) (f ++ [List.replicate n false])) := Lib.hid (by
            refine HR.out.next (by omega) HKj.out ?_ (by rw [hwj]; exact Blk'.new' _ _ _ (by simp [World.setCell])) (by simp) (Nat.le_refl _)
            rw [hwj, ← scells_set (by omega), hbl]
            exact (HR.out.outer.set_ j _).alloc _)
          have HWj := Lib.hid hwj
          have g1 : wi.cell? ⟨w.heap.size, 1, none⟩ = some (.int .i64 (n : Int)) := HGi.out.cell 1
          have zgi : w.heap.size < wi.heap.size := HGi.out.lt
          have HGj := Lib.hid (HGi.out.kept HKj.out (by omega))
          have HKW := Lib.hid (HK.out.trans HKj.out)
          have hlast : (bs ++ [wi.heap.size])[j]? = some wi.heap.size := by rw [List.getElem?_append_right (by rw [HBl.out]; exact Nat.le_refl _), HBl.out]; simp
          have hfl : f.length = j := by rw [HR.out.flen, HBl.out]
          have HLa := Lib.hid (And.intro hlast hfl)
          have hlastf : ∀ row : List Bool, (f ++ [row])[j]? = some row := fun row => by rw [List.getElem?_append_right (by omega), hfl]; simp
          have HLf := Lib.hid hlastf
          have hBlj := HRj.out.rows j _ _ hlast (hlastf _)
          have j0 : wj.cell? ⟨wo.heap.size, j, none⟩ = some (.slice (some ⟨wi.heap.size, 0, none⟩) n n) := (HRj.out.outer.cell j).trans (scells_get hlast)
          have jz : wo.heap.size < wj.heap.size := HRj.out.outer.lt
          have jb : wi.heap.size < wj.heap.size := hBlj.1.lt
          have hrep : (List.replicate n false)[j]? = some false := by rw [List.getElem?_replicate, if_pos hjn]
          have jc : wj.cell? ⟨wi.heap.size, j, none⟩ = some (.bool false) := (hBlj.1.cell _).trans (bcells_get hrep)
          have jf := hBlj.1.frozen j
          have zF2 : wo.heap.size < wi.heap.size + 1 := by omega
          -- the store of the place itself
          obtain ⟨wy, hwy⟩ : ∃ wy : World, wy = wj.setCell ⟨wi.heap.size, j, none⟩ (.bool (decide (k = 0))) := ⟨_, rfl⟩
          obtain ⟨row0, hrow0⟩ : ∃ row0 : List Bool, row0 = (List.replicate n false).set j (decide (k = 0)) := ⟨_, rfl⟩
          have hl0 : row0.length = n := by rw [hrow0]; simp
          have HRy : Hid (RowP wy wo.heap.size n n (bs ++ [wi.heap.size]) (f ++ [row0])) := Lib.hid (by
            rw [hwy, hrow0]
            have h := HRj.out.setRow (row' := (List.replicate n false).set j (decide (k = 0))) hlast (Kept.setCell (X := fun b => b = wi.heap.size) (Kept.refl _ wj) (p := ⟨wi.heap.size, j, none⟩) (.inl rfl) (.bool (decide (k = 0)))) (by rw [← bcells_set]; exact hBlj.1.set_ j _) (by simp)
            rwa [set_last hfl] at h)
          have hkyj : Kept (fun b => b = wi.heap.size) wj wy := by rw [hwy]; exact Kept.setCell (X := fun b => b = wi.heap.size) (Kept.refl _ wj) (p := ⟨wi.heap.size, j, none⟩) (.inl rfl) _
          have HGy := Lib.hid (HGj.out.kept hkyj (by omega))
          have HKy : Hid (Kept (fun b => b = wo.heap.size) w2 wy) := Lib.hid (by rw [hwy]; exact HKW.out.setCell (p := ⟨wi.heap.size, j, none⟩) (.inr (by show w2.heap.size ≤ wi.heap.size; exact hzi)) _)
          have HR0 : Hid (row0 = (List.replicate n false).set j (decide (k = 0))) := Lib.hid hrow0
          have HWy := Lib.hid hwy
          clear hbl hR hrows hkp hwj hlast hfl hlastf hBlj hrep hwy hkyj hrow0
          go_upto_region 11 with (fail)
          rw [← HWj.out]
          clear c0 g1 f0
          by_cases hk00 : k = 0
          · subst hk00
            have HWy2 : Hid (wy = wj.setCell ⟨wi.heap.size, j, none⟩ (.bool true)) := Lib.hid (by rw [HWy.out]; rfl)
            have HRows2 : Hid (∀ (p : Nat) (row : List Bool), (f ++ [row0])[p]? = some row → row.length = n ∧ ∀ t, t < n → (row[t]? = some true ↔ Stp (PassE ⟨(m : Int), (n : Int), gs, rs⟩) 0 p t)) := Lib.hid (fun p r hr => by
              rcases Nat.lt_or_ge p f.length with hlt | hge
              · rw [List.getElem?_append_left hlt] at hr
                exact HRows.out p r hr
              · rw [List.getElem?_append_right hge] at hr
                have e : p = j := by have := (List.getElem?_eq_some_iff.1 hr).1; have := HLa.out.2; simp at *; omega
                subst e
                rw [HLa.out.2, Nat.sub_self] at hr
                simp at hr
                subst hr
                refine ⟨hl0, fun t ht => ?_⟩
                rw [HR0.out, List.getElem?_set]
                show _ ↔ p = t
                by_cases e : p = t
                · subst e; rw [if_pos rfl, if_pos (by simp; omega)]; simp
                · rw [if_neg e, List.getElem?_replicate, if_pos ht]; simp [e])
            clear HLf
            go_upto_region 12 with (fail)
            rw [← HWy2.out]
            go_wp2
            go_roundw
            case rel => exact ⟨j + 1, bs ++ [wi.heap.size], f ++ [row0], hjn, by go_num, by simp [HBl.out], HRy.out, HRows2.out, HKy.out⟩
            case measure => simp [intOf]; omega
          · have HWy2 : Hid (wy = wj.setCell ⟨wi.heap.size, j, none⟩ (.bool false)) := Lib.hid (by rw [HWy.out]; simp [hk00])
            have hki : ¬ (k : Int) = 0 := by omega
            have hki2 : ((k : Int) == 0) = false := by simp; omega
            have HK0 := Lib.hid hk00
            have HRp : Hid (row0 = List.replicate n false) := Lib.hid (by
              rw [HR0.out]
              simp only [hk00, decide_false]
              apply List.ext_getElem?
              intro i
              rw [List.getElem?_set]
              split
              · rename_i e; subst e; rw [if_pos (by rw [List.length_replicate]; exact hjn), List.getElem?_replicate, if_pos hjn]
              · rfl)
            obtain ⟨hTp2, hTR⟩ := HTp.out hk00
            have HTc := Lib.hid hTp2
            have HTR := Lib.hid hTR
            have hTl := hTR.1
            have hkm1 : IntKind.i64.wrap ((k : Int) - 1) = ((k - 1 : Nat) : Int) := by rw [IntWalk.i64_in _ (by omega)]; omega
            have HKm1 := Lib.hid hkm1
            have hkm2 : ((k - 1 : Nat) : Int) < (T.length : Int) := by have := HTl.out; omega
            have hkm3 : (0 : Int) ≤ ((k - 1 : Nat) : Int) := by omega
            clear hTp2 hTR hkm1 hk00
            go_upto_region 12 with (fail)
            rw [← HWy2.out]
            clear j0 jc jf
            have g3 : wy.cell? ⟨w.heap.size, 3, none⟩ = some (.slice A rs.length c) := HGy.out.cell 3
            have zgy : w.heap.size < wy.heap.size := HGy.out.lt
            go_wp2_with fail
            clear g3
            go_loopw [47] (fun i wr => TcM n wo.heap.size (bs ++ [wi.heap.size]) f (fun kk t => FillC ⟨(m : Int), (n : Int), gs, rs⟩ j Tp kk 0 0 t) (fun _ => True) w2 rs.length i wr) (fun i _ => rs.length - (intOf i).toNat)
            case atStart => exact ⟨0, row0, Nat.zero_le _, rfl, hl0, HRy.out, (fun t ht => ⟨fun h => by rw [HRp.out, List.getElem?_replicate, if_pos ht] at h; simp at h, fun h => absurd h FillC.zero⟩), HKy.out, trivial⟩
            case round =>
              obtain ⟨wk, hwk⟩ : ∃ wk : World, wk = wr := ⟨_, rfl⟩
              subst hwk
              obtain ⟨kk, row1, hkk, rfl, hrl1, hR, hfill, hkp, _⟩ := hrel
              have HRk := Lib.hid (show RowP wk wo.heap.size n n (bs ++ [wi.heap.size]) (f ++ [row1]) from hR)
              have HFk := Lib.hid hfill
              have HKk := Lib.hid hkp
              have HRlk := Lib.hid hrl1
              have HGk := Lib.hid ((HGo.out.below HB2.out HGo.out.lt).kept hkp (by omega))
              have hzk : w2.heap.size ≤ wk.heap.size := hkp.size
              have hzrk : wi.heap.size < wk.heap.size := (HRk.out.lt _ (List.mem_of_getElem? HLa.out.1)).2
              clear hR hfill hkp hrl1
              by_cases hkl : kk < rs.length
              · obtain ⟨q2, hq2⟩ := get_some hkl
                have hAk : Els wk S rs A := ((HA.out.belowB (bthen HB1.out HB.out HB1.out.size) HS.out).belowB HB2.out (fun b h => by have := HS.out b h; omega)).kept HKk.out (fun b h e => by have := HS.out b h; omega)
                obtain ⟨bq, oq, Aq, cq, rfl, hSbq, hbs, hqi, hrc, hcr, hEr2, hc0, hc1⟩ := hAk.rule hq2
                have HQ2 := Lib.hid (And.intro hq2 (HRR.out q2 (List.mem_of_getElem? hq2)))
                have HRq := Lib.hid (HRI.out q2 (List.mem_of_getElem? hq2))
                have HEqq := Lib.hid (HEq.out q2 (List.mem_of_getElem? hq2))
                obtain ⟨ql, qr⟩ := q2
                dsimp only at hqi hrc hcr hEr2 hc0 hc1
                have hkk0 : (0 : Int) ≤ (kk : Int) := by omega
                obtain ⟨wx, hwx⟩ : ∃ wx : World, wx = wk.alloc (.cells #[.int .i64 ql, .slice Aq qr.length cq] 49) := ⟨_, rfl⟩
                have HWx := Lib.hid hwx
                have hbx : Below wk.heap.size wk wx := by rw [hwx]; exact (Below.refl _ _).alloc (Nat.le_refl _) _
                have HKx := Lib.hid (HKk.out.below hbx)
                have HRx := Lib.hid (HRk.out.below hbx)
                have HXb : Hid (Blk' wx wk.heap.size 49 #[.int .i64 ql, .slice Aq qr.length cq]) := Lib.hid (by rw [hwx]; exact Blk'.new _ _ _)
                have HGx := Lib.hid (HGk.out.below hbx HGk.out.lt)
                have HEr : Hid (Els w2 S qr Aq) := Lib.hid (hEr2.keep (fun p hp hlt => (HKk.out.cell (p := p) (by have := HS.out _ hp; omega) (by show ¬ p.block = wo.heap.size; have := HS.out _ hp; omega)).symm) (fun _ h => h))
                have zx : wk.heap.size < wx.heap.size := by rw [hwx]; simp
                have g1 : wx.cell? ⟨w.heap.size, 1, none⟩ = some (.int .i64 (n : Int)) := HGx.out.cell 1
                have zgx : w.heap.size < wx.heap.size := HGx.out.lt
                clear hq2 hwx hbx hAk hEr2 hqi
                go_upto_region 16 with (fail)
                rw [← HWx.out]
                clear hc0 hc1
                go_wp2_with fail
                clear g1
                go_loopw [53] (fun i wr => TcM n wo.heap.size (bs ++ [wi.heap.size]) f (fun cc t => FillC ⟨(m : Int), (n : Int), gs, rs⟩ j Tp kk cc 0 t) (fun W => Blk' W wk.heap.size 49 #[.int .i64 ql, .slice Aq qr.length cq]) w2 n i wr) (fun i _ => n - (intOf i).toNat)
                case atStart => exact ⟨0, row1, Nat.zero_le _, rfl, HRlk.out, HRx.out, HFk.out, HKx.out, HXb.out⟩
                case round =>
                  obtain ⟨wc, hwc⟩ : ∃ wc : World, wc = wr := ⟨_, rfl⟩
                  subst hwc
                  obtain ⟨cc, row2, hcc, rfl, hrl1, hR, hfill, hkp, hxb⟩ := hrel
                  have HRc := Lib.hid (show RowP wc wo.heap.size n n (bs ++ [wi.heap.size]) (f ++ [row2]) from hR)
                  have HFc := Lib.hid hfill
                  have HKc := Lib.hid hkp
                  have HRlc := Lib.hid hrl1
                  have HXc := Lib.hid hxb
                  have HGc := Lib.hid ((HGo.out.below HB2.out HGo.out.lt).kept hkp (by omega))
                  have hzc : w2.heap.size ≤ wc.heap.size := hkp.size
                  have x0 : wc.cell? ⟨wk.heap.size, 0, none⟩ = some (.int .i64 ql) := HXc.out.cell 0
                  have x1 : wc.cell? ⟨wk.heap.size, 1, none⟩ = some (.slice Aq qr.length cq) := HXc.out.cell 1
                  have zxc : wk.heap.size < wc.heap.size := HXc.out.lt
                  have g0 : wc.cell? ⟨w.heap.size, 0, none⟩ = some (.int .i64 (m : Int)) := HGc.out.cell 0
                  have g1 : wc.cell? ⟨w.heap.size, 1, none⟩ = some (.int .i64 (n : Int)) := HGc.out.cell 1
                  have g2 : wc.cell? ⟨w.heap.size, 2, none⟩ = some (.int .i64 gs) := HGc.out.cell 2
                  have g3 : wc.cell? ⟨w.heap.size, 3, none⟩ = some (.slice (some ⟨bq, oq, none⟩) rs.length c) := HGc.out.cell 3
                  have zgc : w.heap.size < wc.heap.size := HGc.out.lt
                  clear hR hfill hkp hrl1 hxb
                  by_cases hcn : cc < n
                  · have hcc0 : (0 : Int) ≤ (cc : Int) := by omega
                    have hcc9 : (cc : Int) < (n : Int) := by omega
                    by_cases hql : ql = (j : Int)
                    · have HQl := Lib.hid hql
                      have hle : (ql == (j : Int)) = true := by simp [hql]
                      have HNc : Hid (Blk' wc nb 4 (bcells (nullB L))) := Lib.hid (((HNb.out.below HB.out HNb.out.lt).below HB2.out (by omega)).kept HKc.out (by omega))
                      have HEc : Hid (Els wc S qr Aq) := Lib.hid (HEr.out.kept HKc.out (fun b h e => by have := HS.out b h; omega))
                      clear hql
                      go_wp2_with fail
                      refine (rpasses_any ⟨(m : Int), (n : Int), gs, rs⟩ _ nb n (nullB L) ⟨ql, qr⟩ Aq cq S (cc : Int) wc ⟨_, _, _, _, _, _, rfl⟩ HNc.out HNl.out (by have := HQ2.out.2; dsimp only at this ⊢; omega) (fun s hs => HRq.out.2.2.2 s hs) hrc hcr HEc.out (fun b h => by have := HS.out b h; omega) HEqq.out).mono ?_
                      rintro e w5 ⟨bb, rfl, hbb, hb5⟩
                      have HBB := Lib.hid hbb
                      have HR5 := Lib.hid (HRc.out.below hb5)
                      have HK5 := Lib.hid (HKc.out.below hb5)
                      have HX5 := Lib.hid (HXc.out.below hb5 HXc.out.lt)
                      have HG5 := Lib.hid (HGc.out.below hb5 HGc.out.lt)
                      have hz5 : wc.heap.size ≤ w5.heap.size := hb5.size
                      clear hbb hb5 x0 x1 g0 g1 g2 g3
                      cases bb
                      · have HSk := Lib.hid (fun t => FillC.skip (g := ⟨(m : Int), (n : Int), gs, rs⟩) (a := j) (Tp := Tp) (c := cc) HQ2.out.1 (fun h => by have h9 := HBB.out.2 h.2; cases h9) t)
                        go_wp2
                        go_roundw
                        case rel => exact ⟨cc + 1, row2, hcn, by go_num, HRlc.out, HR5.out, (fun t ht => (HFc.out t ht).trans (HSk.out t).symm), HK5.out, HX5.out⟩
                        case measure => simp [intOf]; omega
                      · have HPs := Lib.hid (HBB.out.1 rfl)
                        obtain ⟨prv, hprv⟩ := get_some (show cc < Tp.length by rw [hTl]; exact hcn)
                        have HPv := Lib.hid (And.intro hprv (HTR.out.2 cc prv hprv).1)
                        have g1 : w5.cell? ⟨w.heap.size, 1, none⟩ = some (.int .i64 (n : Int)) := HG5.out.cell 1
                        have zg5 : w.heap.size < w5.heap.size := HG5.out.lt
                        have htpl : (cc : Int) < (Tp.length : Int) := by omega
                        clear hprv
                        go_wp2_with fail
                        clear g1
                        go_loopw [69] (fun i wr => TcM n wo.heap.size (bs ++ [wi.heap.size]) f (fun u t => FillC ⟨(m : Int), (n : Int), gs, rs⟩ j Tp kk cc u t) (fun W => Blk' W wk.heap.size 49 #[.int .i64 ql, .slice Aq qr.length cq]) w2 n i wr) (fun i _ => n - (intOf i).toNat)
                        case atStart => exact ⟨0, row2, Nat.zero_le _, rfl, HRlc.out, HR5.out, HFc.out, HK5.out, HX5.out⟩
                        case round =>
                          obtain ⟨wu, hwu⟩ : ∃ wu : World, wu = wr := ⟨_, rfl⟩
                          subst hwu
                          obtain ⟨u, row3, hu, rfl, hrl1, hR, hfill, hkp, hxb⟩ := hrel
                          have HRu := Lib.hid (show RowP wu wo.heap.size n n (bs ++ [wi.heap.size]) (f ++ [row3]) from hR)
                          have HFu := Lib.hid hfill
                          have HKu := Lib.hid hkp
                          have HRlu := Lib.hid hrl1
                          have HXu := Lib.hid hxb
                          by_cases hun : u < n
                          · obtain ⟨z, hz⟩ := get_some (show u < prv.length by have := HPv.out.2; omega)
                            have hTx : Els wu (fun b => (False ∨ w1.heap.size ≤ b) ∧ b < wo.heap.size) T AT := HTE.out.kept HKu.out (fun b h e => by omega)
                            obtain ⟨b1, o1, A1, c1, rfl, hS1, hb1, hc1, hc11, hc12, hE1⟩ := hTx.rowS HTc.out
                            obtain ⟨b2, o2, A2, c2, rfl, hS2, hb22, hc2, hc21, hc22, hE2⟩ := hE1.rowS HPv.out.1
                            obtain ⟨b3, o3, rfl, hS3, hb3, hc3⟩ := hE2.bool hz
                            rw [HPv.out.2] at hc2
                            have HZ := Lib.hid hz
                            have hlast := HLa.out.1
                            have hfl := HLa.out.2
                            have hlastf := HLf.out row3
                            have hBl := HRu.out.rows j _ row3 hlast hlastf
                            have o0 : wu.cell? ⟨wo.heap.size, j, none⟩ = some (.slice (some ⟨wi.heap.size, 0, none⟩) n n) := (HRu.out.outer.cell j).trans (scells_get hlast)
                            obtain ⟨xv, hxv⟩ := get_some (show u < row3.length by omega)
                            have cx : wu.cell? ⟨wi.heap.size, u, none⟩ = some (.bool xv) := (hBl.1.cell _).trans (bcells_get hxv)
                            have fx := hBl.1.frozen u
                            have zwi : wi.heap.size < wu.heap.size := hBl.1.lt
                            have zwo : wo.heap.size < wu.heap.size := HRu.out.outer.lt
                            have hu0 : (0 : Int) ≤ (u : Int) := by omega
                            have hu9 : (u : Int) < (n : Int) := by omega
                            have n1 : ¬ wo.heap.size = wi.heap.size := by omega
                            have HFn : Hid (∀ t, t < n → ((row3.set u (xv || z))[t]? = some true ↔ FillC ⟨(m : Int), (n : Int), gs, rs⟩ j Tp kk cc (u + 1) t)) := Lib.hid (row_set hrl1 hun HFu.out (fun t ht => by
                              rw [FillC.cell HQ2.out.1 HQl.out HPs.out HPv.out.1 HZ.out t]
                              exact ⟨fun h => by rcases h with h | ⟨h, _⟩; exact h; exact absurd h ht, .inl⟩) (by
                              have h9 : (row3[u]? = some true ↔ FillC ⟨(m : Int), (n : Int), gs, rs⟩ j Tp kk cc u u) := HFu.out u hun
                              rw [FillC.cell HQ2.out.1 HQl.out HPs.out HPv.out.1 HZ.out u, ← h9, hxv]
                              simp))
                            have hkd := ((Kept.refl (fun b => b = wi.heap.size) wu).drew).setCell (p := ⟨wi.heap.size, u, none⟩) (.inl rfl) (.bool (xv || z))
                            have HRn : Hid (RowP (wu.drew.setCell ⟨wi.heap.size, u, none⟩ (.bool (xv || z))) wo.heap.size n n (bs ++ [wi.heap.size]) (f ++ [row3.set u (xv || z)])) := Lib.hid (by
                              have h := HRu.out.setRow (row' := row3.set u (xv || z)) hlast hkd (by rw [← bcells_set]; exact hBl.1.drew.set_ u _) (by rw [List.length_set]; exact hrl1)
                              rwa [set_last hfl] at h)
                            have HKn : Hid (Kept (fun b => b = wo.heap.size) w2 (wu.drew.setCell ⟨wi.heap.size, u, none⟩ (.bool (xv || z)))) := Lib.hid (HKu.out.drew.setCell (p := ⟨wi.heap.size, u, none⟩) (.inr (by show w2.heap.size ≤ wi.heap.size; exact hzi)) _)
                            have HXn : Hid (Blk' (wu.drew.setCell ⟨wi.heap.size, u, none⟩ (.bool (xv || z))) wk.heap.size 49 #[.int .i64 ql, .slice Aq qr.length cq]) := Lib.hid (HXu.out.kept hkd (by omega))
                            have e0 := (hkd.cell (p := ⟨wo.heap.size, j, none⟩) zwo n1).trans o0
                            have HEe := Lib.hid e0
                            have hkmA := HKm1.out
                            clear hz hTx hE1 hE2 hlast hfl hlastf hBl hxv hkd e0 hR hfill hkp hxb
                            cases xv
                            · simp only [Bool.false_or] at HRn HKn HEe HFn HXn
                              go_wp2_with fail
                              refine wp_region_noPanic ?_
                              refine wp_region_held_drew (S := (fun w' => w'.cell? ⟨wo.heap.size, j, none⟩ = some (.slice (some ⟨wi.heap.size, 0, none⟩) n n))) (by kernel_rfl) ?hp (fun hHeld => ?bp)
                              case hp => ((try dsimp only); go_keep)
                              refine take_run (i := 0) (v := ?vp0) rfl (by kernel_rfl) (by kernel_rfl) (by kernel_rfl) (fun _ _ _ h => h) (by rfl) ?yp0 (by assumption) ?rp0
                              case yp0 => (intro w hSw; (try dsimp only at hSw); go_simp; try with_reducible rfl)
                              try simp only [Act.put, List.setIfInBounds_toArray, List.set_cons_zero, List.set_cons_succ]
                              refine take_run (i := 1) (v := ?vp1) rfl (by kernel_rfl) (by kernel_rfl) (by kernel_rfl) (fun _ _ _ h => h) (by rfl) ?yp1 (by assumption) ?rp1
                              case yp1 => (intro w hSw; (try dsimp only at hSw); go_simp; try with_reducible rfl)
                              try simp only [Act.put, List.setIfInBounds_toArray, List.set_cons_zero, List.set_cons_succ]
                              refine take_run (i := 2) (v := ?vp2) rfl (by kernel_rfl) (by kernel_rfl) (by kernel_rfl) (fun _ _ _ h => h) (by rfl) ?yp2 (by assumption) ?rp2
                              case yp2 => (intro w hSw; (try dsimp only at hSw); go_simp; try with_reducible rfl)
                              try simp only [Act.put, List.setIfInBounds_toArray, List.set_cons_zero, List.set_cons_succ]
                              refine take_run (i := 3) (v := ?vp3) rfl (by kernel_rfl) (by kernel_rfl) (by kernel_rfl) (fun _ _ _ h => h) (by rfl) ?yp3 (by assumption) ?rp3
                              case yp3 => (intro w hSw; (try dsimp only at hSw); go_simp; try with_reducible rfl)
                              try simp only [Act.put, List.setIfInBounds_toArray, List.set_cons_zero, List.set_cons_succ]
                              refine take_run (i := 4) (v := ?vp4) rfl (by kernel_rfl) (by kernel_rfl) (by kernel_rfl) (fun _ _ _ h => h) (by rfl) ?yp4 (by assumption) ?rp4
                              case yp4 => (intro w hSw; (try dsimp only at hSw); go_simp; try with_reducible rfl)
                              try simp only [Act.put, List.setIfInBounds_toArray, List.set_cons_zero, List.set_cons_succ]
                              refine take_run (i := 5) (v := ?vp5) rfl (by kernel_rfl) (by kernel_rfl) (by kernel_rfl) (fun _ _ _ h => h) (by rfl) ?yp5 (by assumption) ?rp5
                              case yp5 => (intro w hSw; (try dsimp only at hSw); go_simp; try with_reducible rfl)
                              try simp only [Act.put, List.setIfInBounds_toArray, List.set_cons_zero, List.set_cons_succ]
                              refine take_run (i := 6) (v := ?vp6) rfl (by kernel_rfl) (by kernel_rfl) (by kernel_rfl) (fun _ _ _ h => h) (by rfl) ?yp6 (by assumption) ?rp6
                              case yp6 => (intro w hSw; (try dsimp only at hSw); go_simp; try with_reducible rfl)
                              try simp only [Act.put, List.setIfInBounds_toArray, List.set_cons_zero, List.set_cons_succ]
                              refine take_run (i := 7) (v := ?vp7) rfl (by kernel_rfl) (by kernel_rfl) (by kernel_rfl) (fun _ _ _ h => h) (by rfl) ?yp7 (by assumption) ?rp7
                              case yp7 => (intro w hSw; (try dsimp only at hSw); go_simp; try with_reducible rfl)
                              try simp only [Act.put, List.setIfInBounds_toArray, List.set_cons_zero, List.set_cons_succ]
                              refine take_run (i := 8) (v := ?vp8) rfl (by kernel_rfl) (by kernel_rfl) (by kernel_rfl) (fun _ _ _ h => h) (by rfl) ?yp8 (by assumption) ?rp8
                              case yp8 => (intro w hSw; (try dsimp only at hSw); go_simp; try with_reducible rfl)
                              try simp only [Act.put, List.setIfInBounds_toArray, List.set_cons_zero, List.set_cons_succ]
                              refine take_run (i := 9) (v := ?vp9) rfl (by kernel_rfl) (by kernel_rfl) (by kernel_rfl) (fun _ _ _ h => h) (by rfl) ?yp9 (by assumption) ?rp9
                              case yp9 => (intro w hSw; (try dsimp only at hSw); go_simp; try with_reducible rfl)
                              try simp only [Act.put, List.setIfInBounds_toArray, List.set_cons_zero, List.set_cons_succ]
                              refine take_run (i := 10) (v := ?vp10) rfl (by kernel_rfl) (by kernel_rfl) (by kernel_rfl) (fun _ _ _ h => h) (by rfl) ?yp10 (by assumption) ?rp10
                              case yp10 => (intro w hSw; (try dsimp only at hSw); go_simp; try with_reducible rfl)
                              try simp only [Act.put, List.setIfInBounds_toArray, List.set_cons_zero, List.set_cons_succ]
                              refine take_call (i := 11) rfl (by kernel_rfl) (by rfl) (fun Kq hK => ?_)
                              go_simp
                              refine hK.out _ _ ?hp11 (fun hHeld => ?rp11)
                              case hp11 => ((try dsimp only); go_keep)
                              clear hK Kq
                              try simp only [Act.put, List.setIfInBounds_toArray, List.set_cons_zero, List.set_cons_succ]
                              refine take_run (i := 12) (v := ?vp12) rfl (by kernel_rfl) (by kernel_rfl) (by kernel_rfl) (fun _ _ _ h => h) (by rfl) ?yp12 (by assumption) ?rp12
                              case yp12 => (intro w hSw; (try dsimp only at hSw); go_simp; try with_reducible rfl)
                              try simp only [Act.put, List.setIfInBounds_toArray, List.set_cons_zero, List.set_cons_succ]
                              refine take_run (i := 13) (v := ?vp13) rfl (by kernel_rfl) (by kernel_rfl) (by kernel_rfl) (fun _ _ _ h => h) (by rfl) ?yp13 (by assumption) ?rp13
                              case yp13 => (intro w hSw; (try dsimp only at hSw); go_simp; try with_reducible rfl)
                              try simp only [Act.put, List.setIfInBounds_toArray, List.set_cons_zero, List.set_cons_succ]
                              refine take_run (i := 14) (v := ?vp14) rfl (by kernel_rfl) (by kernel_rfl) (by kernel_rfl) (fun _ _ _ h => h) (by rfl) ?yp14 (by assumption) ?rp14
                              case yp14 => (intro w hSw; (try dsimp only at hSw); go_simp; try with_reducible rfl)
                              try simp only [Act.put, List.setIfInBounds_toArray, List.set_cons_zero, List.set_cons_succ]
                              refine take_run (i := 15) (v := ?vp15) rfl (by kernel_rfl) (by kernel_rfl) (by kernel_rfl) (fun _ _ _ h => h) (by rfl) ?yp15 (by assumption) ?rp15
                              case yp15 => (intro w hSw; (try dsimp only at hSw); go_simp; try with_reducible rfl)
                              try simp only [Act.put, List.setIfInBounds_toArray, List.set_cons_zero, List.set_cons_succ]
                              refine take_run (i := 16) (v := ?vp16) rfl (by kernel_rfl) (by kernel_rfl) (by kernel_rfl) (fun _ _ _ h => h) (by rfl) ?yp16 (by assumption) ?rp16
                              case yp16 => (intro w hSw; (try dsimp only at hSw); go_simp; try with_reducible rfl)
                              try simp only [Act.put, List.setIfInBounds_toArray, List.set_cons_zero, List.set_cons_succ]
                              refine take_run (i := 18) (v := ?vp18) rfl (by kernel_rfl) (by kernel_rfl) (by kernel_rfl) (fun _ _ _ h => h) (by rfl) ?yp18 (by assumption) ?rp18
                              case yp18 => (intro w hSw; (try dsimp only at hSw); go_simp; try with_reducible rfl)
                              try simp only [Act.put, List.setIfInBounds_toArray, List.set_cons_zero, List.set_cons_succ]
                              refine take_run (i := 21) (v := ?vp21) rfl (by kernel_rfl) (by kernel_rfl) (by kernel_rfl) (fun _ _ _ h => h) (by rfl) ?yp21 (by assumption) ?rp21
                              case yp21 => (intro w hSw; (try dsimp only at hSw); go_simp; try with_reducible rfl)
                              try simp only [Act.put, List.setIfInBounds_toArray, List.set_cons_zero, List.set_cons_succ]
                              refine take_call (i := 17) rfl (by kernel_rfl) (by rfl) (fun Kq hK => ?_)
                              go_simp
                              refine hK.out _ _ ?hp17 (fun hHeld => ?rp17)
                              case hp17 => ((try dsimp only); go_keep)
                              clear hK Kq
                              try simp only [Act.put, List.setIfInBounds_toArray, List.set_cons_zero, List.set_cons_succ]
                              refine take_run (i := 19) (v := ?vp19) rfl (by kernel_rfl) (by kernel_rfl) (by kernel_rfl) (fun _ _ _ h => h) (by rfl) ?yp19 (by assumption) ?rp19
                              case yp19 => (intro w hSw; (try dsimp only at hSw); go_simp; try with_reducible rfl)
                              try simp only [Act.put, List.setIfInBounds_toArray, List.set_cons_zero, List.set_cons_succ]
                              refine take_call (i := 20) rfl (by kernel_rfl) (by rfl) (fun Kq hK => ?_)
                              go_simp
                              refine hK.out _ _ ?hp20 (fun hHeld => ?rp20)
                              case hp20 => ((try dsimp only); go_keep)
                              clear hK Kq
                              try simp only [Act.put, List.setIfInBounds_toArray, List.set_cons_zero, List.set_cons_succ]
                              refine take_run (i := 22) (v := ?vp22) rfl (by kernel_rfl) (by kernel_rfl) (by kernel_rfl) (fun _ _ _ h => h) (by rfl) ?yp22 (by assumption) ?rp22
                              case yp22 => (intro w hSw; (try dsimp only at hSw); go_simp; try with_reducible rfl)
                              try simp only [Act.put, List.setIfInBounds_toArray, List.set_cons_zero, List.set_cons_succ]
                              refine take_call (i := 23) rfl (by kernel_rfl) (by rfl) (fun Kq hK => ?_)
                              go_simp
                              refine hK.out _ _ ?hp23 (fun hHeld => ?rp23)
                              case hp23 => ((try dsimp only); go_keep)
                              clear hK Kq
                              try simp only [Act.put, List.setIfInBounds_toArray, List.set_cons_zero, List.set_cons_succ]
                              refine take_run (i := 24) (v := ?vp24) rfl (by kernel_rfl) (by kernel_rfl) (by kernel_rfl) (fun _ _ _ h => h) (by rfl) ?yp24 (by assumption) ?rp24
                              case yp24 => (intro w hSw; (try dsimp only at hSw); go_simp; try with_reducible rfl)
                              try simp only [Act.put, List.setIfInBounds_toArray, List.set_cons_zero, List.set_cons_succ]
                              refine take_run (i := 25) (v := ?vp25) rfl (by kernel_rfl) (by kernel_rfl) (by kernel_rfl) (fun _ _ _ h => h) (by rfl) ?yp25 (by assumption) ?rp25
                              case yp25 => (intro w hSw; (try dsimp only at hSw); go_simp; try with_reducible rfl)
                              try simp only [Act.put, List.setIfInBounds_toArray, List.set_cons_zero, List.set_cons_succ]
                              refine take_call (i := 26) rfl (by kernel_rfl) (by rfl) (fun Kq hK => ?_)
                              go_simp
                              refine hK.out _ _ ?hp26 (fun hHeld => ?rp26)
                              case hp26 => exact HEe.out
                              clear hK Kq
                              try simp only [Act.put, List.setIfInBounds_toArray, List.set_cons_zero, List.set_cons_succ]
                              refine wpAnyH_done (by kernel_rfl) ?_ _
                              refine NoPanic.normal ?_
                              go_wp2_with fail
                              go_roundw
                              case rel => exact ⟨u + 1, _, hun, by go_num, by rw [List.length_set]; exact HRlu.out, HRn.out, HFn.out, HKn.out, HXn.out⟩
                              case measure => simp [intOf]; omega
                            · simp only [Bool.true_or] at HRn HKn HEe HFn HXn
                              go_wp2_with fail
                              refine wp_region_noPanic ?_
                              refine wp_region_held_drew (S := (fun w' => w'.cell? ⟨wo.heap.size, j, none⟩ = some (.slice (some ⟨wi.heap.size, 0, none⟩) n n))) (by kernel_rfl) ?hq (fun hHeld => ?bq)
                              case hq => ((try dsimp only); go_keep)
                              refine take_run (i := 0) (v := ?vq0) rfl (by kernel_rfl) (by kernel_rfl) (by kernel_rfl) (fun _ _ _ h => h) (by rfl) ?yq0 (by assumption) ?rq0
                              case yq0 => (intro w hSw; (try dsimp only at hSw); go_simp; try with_reducible rfl)
                              try simp only [Act.put, List.setIfInBounds_toArray, List.set_cons_zero, List.set_cons_succ]
                              refine take_run (i := 1) (v := ?vq1) rfl (by kernel_rfl) (by kernel_rfl) (by kernel_rfl) (fun _ _ _ h => h) (by rfl) ?yq1 (by assumption) ?rq1
                              case yq1 => (intro w hSw; (try dsimp only at hSw); go_simp; try with_reducible rfl)
                              try simp only [Act.put, List.setIfInBounds_toArray, List.set_cons_zero, List.set_cons_succ]
                              refine take_run (i := 2) (v := ?vq2) rfl (by kernel_rfl) (by kernel_rfl) (by kernel_rfl) (fun _ _ _ h => h) (by rfl) ?yq2 (by assumption) ?rq2
                              case yq2 => (intro w hSw; (try dsimp only at hSw); go_simp; try with_reducible rfl)
                              try simp only [Act.put, List.setIfInBounds_toArray, List.set_cons_zero, List.set_cons_succ]
                              refine take_run (i := 3) (v := ?vq3) rfl (by kernel_rfl) (by kernel_rfl) (by kernel_rfl) (fun _ _ _ h => h) (by rfl) ?yq3 (by assumption) ?rq3
                              case yq3 => (intro w hSw; (try dsimp only at hSw); go_simp; try with_reducible rfl)
                              try simp only [Act.put, List.setIfInBounds_toArray, List.set_cons_zero, List.set_cons_succ]
                              refine take_run (i := 4) (v := ?vq4) rfl (by kernel_rfl) (by kernel_rfl) (by kernel_rfl) (fun _ _ _ h => h) (by rfl) ?yq4 (by assumption) ?rq4
                              case yq4 => (intro w hSw; (try dsimp only at hSw); go_simp; try with_reducible rfl)
                              try simp only [Act.put, List.setIfInBounds_toArray, List.set_cons_zero, List.set_cons_succ]
                              refine take_run (i := 5) (v := ?vq5) rfl (by kernel_rfl) (by kernel_rfl) (by kernel_rfl) (fun _ _ _ h => h) (by rfl) ?yq5 (by assumption) ?rq5
                              case yq5 => (intro w hSw; (try dsimp only at hSw); go_simp; try with_reducible rfl)
                              try simp only [Act.put, List.setIfInBounds_toArray, List.set_cons_zero, List.set_cons_succ]
                              refine take_run (i := 6) (v := ?vq6) rfl (by kernel_rfl) (by kernel_rfl) (by kernel_rfl) (fun _ _ _ h => h) (by rfl) ?yq6 (by assumption) ?rq6
                              case yq6 => (intro w hSw; (try dsimp only at hSw); go_simp; try with_reducible rfl)
                              try simp only [Act.put, List.setIfInBounds_toArray, List.set_cons_zero, List.set_cons_succ]
                              refine take_run (i := 7) (v := ?vq7) rfl (by kernel_rfl) (by kernel_rfl) (by kernel_rfl) (fun _ _ _ h => h) (by rfl) ?yq7 (by assumption) ?rq7
                              case yq7 => (intro w hSw; (try dsimp only at hSw); go_simp; try with_reducible rfl)
                              try simp only [Act.put, List.setIfInBounds_toArray, List.set_cons_zero, List.set_cons_succ]
                              refine take_run (i := 8) (v := ?vq8) rfl (by kernel_rfl) (by kernel_rfl) (by kernel_rfl) (fun _ _ _ h => h) (by rfl) ?yq8 (by assumption) ?rq8
                              case yq8 => (intro w hSw; (try dsimp only at hSw); go_simp; try with_reducible rfl)
                              try simp only [Act.put, List.setIfInBounds_toArray, List.set_cons_zero, List.set_cons_succ]
                              refine take_run (i := 9) (v := ?vq9) rfl (by kernel_rfl) (by kernel_rfl) (by kernel_rfl) (fun _ _ _ h => h) (by rfl) ?yq9 (by assumption) ?rq9
                              case yq9 => (intro w hSw; (try dsimp only at hSw); go_simp; try with_reducible rfl)
                              try simp only [Act.put, List.setIfInBounds_toArray, List.set_cons_zero, List.set_cons_succ]
                              refine take_run (i := 10) (v := ?vq10) rfl (by kernel_rfl) (by kernel_rfl) (by kernel_rfl) (fun _ _ _ h => h) (by rfl) ?yq10 (by assumption) ?rq10
                              case yq10 => (intro w hSw; (try dsimp only at hSw); go_simp; try with_reducible rfl)
                              try simp only [Act.put, List.setIfInBounds_toArray, List.set_cons_zero, List.set_cons_succ]
                              refine take_call (i := 11) rfl (by kernel_rfl) (by rfl) (fun Kq hK => ?_)
                              go_simp
                              refine hK.out _ _ ?hq11 (fun hHeld => ?rq11)
                              case hq11 => ((try dsimp only); go_keep)
                              clear hK Kq
                              try simp only [Act.put, List.setIfInBounds_toArray, List.set_cons_zero, List.set_cons_succ]
                              refine take_run (i := 12) (v := ?vq12) rfl (by kernel_rfl) (by kernel_rfl) (by kernel_rfl) (fun _ _ _ h => h) (by rfl) ?yq12 (by assumption) ?rq12
                              case yq12 => (intro w hSw; (try dsimp only at hSw); go_simp; try with_reducible rfl)
                              try simp only [Act.put, List.setIfInBounds_toArray, List.set_cons_zero, List.set_cons_succ]
                              refine take_bar (i := 13) rfl (by kernel_rfl) (by kernel_rfl) (by kernel_rfl) (fun _ _ _ h => h) (by rfl) (by assumption) ?_
                              try simp only [Act.put, List.setIfInBounds_toArray, List.set_cons_zero, List.set_cons_succ]
                              refine take_bar (i := 14) rfl (by kernel_rfl) (by kernel_rfl) (by kernel_rfl) (fun _ _ _ h => h) (by rfl) (by assumption) ?_
                              try simp only [Act.put, List.setIfInBounds_toArray, List.set_cons_zero, List.set_cons_succ]
                              refine take_bar (i := 15) rfl (by kernel_rfl) (by kernel_rfl) (by kernel_rfl) (fun _ _ _ h => h) (by rfl) (by assumption) ?_
                              try simp only [Act.put, List.setIfInBounds_toArray, List.set_cons_zero, List.set_cons_succ]
                              refine take_bar (i := 16) rfl (by kernel_rfl) (by kernel_rfl) (by kernel_rfl) (fun _ _ _ h => h) (by rfl) (by assumption) ?_
                              try simp only [Act.put, List.setIfInBounds_toArray, List.set_cons_zero, List.set_cons_succ]
                              refine take_bar (i := 17) rfl (by kernel_rfl) (by kernel_rfl) (by kernel_rfl) (fun _ _ _ h => h) (by rfl) (by assumption) ?_
                              try simp only [Act.put, List.setIfInBounds_toArray, List.set_cons_zero, List.set_cons_succ]
                              refine take_bar (i := 18) rfl (by kernel_rfl) (by kernel_rfl) (by kernel_rfl) (fun _ _ _ h => h) (by rfl) (by assumption) ?_
                              try simp only [Act.put, List.setIfInBounds_toArray, List.set_cons_zero, List.set_cons_succ]
                              refine take_bar (i := 19) rfl (by kernel_rfl) (by kernel_rfl) (by kernel_rfl) (fun _ _ _ h => h) (by rfl) (by assumption) ?_
                              try simp only [Act.put, List.setIfInBounds_toArray, List.set_cons_zero, List.set_cons_succ]
                              refine take_bar (i := 20) rfl (by kernel_rfl) (by kernel_rfl) (by kernel_rfl) (fun _ _ _ h => h) (by rfl) (by assumption) ?_
                              try simp only [Act.put, List.setIfInBounds_toArray, List.set_cons_zero, List.set_cons_succ]
                              refine take_bar (i := 21) rfl (by kernel_rfl) (by kernel_rfl) (by kernel_rfl) (fun _ _ _ h => h) (by rfl) (by assumption) ?_
                              try simp only [Act.put, List.setIfInBounds_toArray, List.set_cons_zero, List.set_cons_succ]
                              refine take_bar (i := 22) rfl (by kernel_rfl) (by kernel_rfl) (by kernel_rfl) (fun _ _ _ h => h) (by rfl) (by assumption) ?_
                              try simp only [Act.put, List.setIfInBounds_toArray, List.set_cons_zero, List.set_cons_succ]
                              refine take_bar (i := 23) rfl (by kernel_rfl) (by kernel_rfl) (by kernel_rfl) (fun _ _ _ h => h) (by rfl) (by assumption) ?_
                              try simp only [Act.put, List.setIfInBounds_toArray, List.set_cons_zero, List.set_cons_succ]
                              refine take_run (i := 24) (v := ?vq24) rfl (by kernel_rfl) (by kernel_rfl) (by kernel_rfl) (fun _ _ _ h => h) (by rfl) ?yq24 (by assumption) ?rq24
                              case yq24 => (intro w hSw; (try dsimp only at hSw); go_simp; try with_reducible rfl)
                              try simp only [Act.put, List.setIfInBounds_toArray, List.set_cons_zero, List.set_cons_succ]
                              refine take_run (i := 25) (v := ?vq25) rfl (by kernel_rfl) (by kernel_rfl) (by kernel_rfl) (fun _ _ _ h => h) (by rfl) ?yq25 (by assumption) ?rq25
                              case yq25 => (intro w hSw; (try dsimp only at hSw); go_simp; try with_reducible rfl)
                              try simp only [Act.put, List.setIfInBounds_toArray, List.set_cons_zero, List.set_cons_succ]
                              refine take_call (i := 26) rfl (by kernel_rfl) (by rfl) (fun Kq hK => ?_)
                              go_simp
                              refine hK.out _ _ ?hq26 (fun hHeld => ?rq26)
                              case hq26 => exact HEe.out
                              clear hK Kq
                              try simp only [Act.put, List.setIfInBounds_toArray, List.set_cons_zero, List.set_cons_succ]
                              refine wpAnyH_done (by kernel_rfl) ?_ _
                              refine NoPanic.normal ?_
                              go_wp2_with fail
                              go_roundw
                              case rel => exact ⟨u + 1, _, hun, by go_num, by rw [List.length_set]; exact HRlu.out, HRn.out, HFn.out, HKn.out, HXn.out⟩
                              case measure => simp [intOf]; omega
                          · have huu : u = n := by omega
                            have HFn : Hid (∀ t, t < n → (row3[t]? = some true ↔ FillC ⟨(m : Int), (n : Int), gs, rs⟩ j Tp kk (cc + 1) 0 t)) := Lib.hid (fun t ht => (HFu.out t ht).trans (by rw [huu, ← HPv.out.2]; exact (FillC.place HPv.out.1 t).symm))
                            clear hR hfill hkp hxb
                            go_wp2
                            go_roundw
                            case rel => exact ⟨cc + 1, row3, hcn, by go_num, HRlu.out, HRu.out, HFn.out, HKu.out, HXu.out⟩
                            case measure => simp [intOf]; omega
                    · have hle : (ql == (j : Int)) = false := by simp [hql]
                      have HSk := Lib.hid (fun t => FillC.skip (g := ⟨(m : Int), (n : Int), gs, rs⟩) (a := j) (Tp := Tp) (c := cc) HQ2.out.1 (fun h => hql h.1) t)
                      clear hql
                      go_wp2
                      go_roundw
                      case rel => exact ⟨cc + 1, row2, hcn, by go_num, HRlc.out, HRc.out, (fun t ht => (HFc.out t ht).trans (HSk.out t).symm), HKc.out, HXc.out⟩
                      case measure => simp [intOf]; omega
                  · have hce : cc = n := by omega
                    have HFn : Hid (∀ t, t < n → (row2[t]? = some true ↔ FillC ⟨(m : Int), (n : Int), gs, rs⟩ j Tp (kk + 1) 0 0 t)) := Lib.hid (fun t ht => (HFc.out t ht).trans (by rw [hce, ← hTl]; exact (FillC.rule t).symm))
                    go_wp2
                    go_roundw
                    case rel =>
                      first
                      | exact ⟨kk + 1, row2, hkl, by go_num, HRlc.out, HRc.out, HFn.out, HKc.out, trivial⟩
                      | exact ⟨_, _, _, .int .i64 ((kk : Int) + 1), ⟨kk + 1, row2, hkl, by go_num, HRlc.out, HRc.out, HFn.out, HKc.out, trivial⟩, rfl, rfl, rfl, rfl⟩
                    case measure => simp [intOf]; omega
              · have hke : kk = rs.length := by omega
                have HNx : Hid (∀ (p : Nat) (r : List Bool), (f ++ [row1])[p]? = some r → r.length = n ∧ ∀ t, t < n → (r[t]? = some true ↔ Stp (PassE ⟨(m : Int), (n : Int), gs, rs⟩) k p t)) := Lib.hid (fun p r hr => by
                  rcases Nat.lt_or_ge p f.length with hlt | hge
                  · rw [List.getElem?_append_left hlt] at hr
                    exact HRows.out p r hr
                  · rw [List.getElem?_append_right hge] at hr
                    have e : p = j := by have := (List.getElem?_eq_some_iff.1 hr).1; have := HLa.out.2; simp at *; omega
                    subst e
                    rw [HLa.out.2, Nat.sub_self] at hr
                    simp at hr
                    subst hr
                    refine ⟨HRlk.out, fun t ht => (HFk.out t ht).trans ?_⟩
                    rw [hke]
                    have h9 := FillC.all (g := ⟨(m : Int), (n : Int), gs, rs⟩) (a := p) HPI.out HTR.out t ht
                    rw [show k - 1 + 1 = k by have := HK0.out; omega] at h9
                    exact h9)
                go_wp2
                go_roundw
                case rel => exact ⟨j + 1, bs ++ [wi.heap.size], f ++ [row1], hjn, by go_num, by simp [HBl.out], HRk.out, HNx.out, HKk.out⟩
                case measure => simp [intOf]; omega
        · have hjj : j = n := by omega
          have hcap1 : (T.length + 1) * 24 ≤ 140737488355328 := by have := HTl.out; omega
          have hcap2 : T.length + 1 ≤ 9223372036854775807 := by have := HTl.out; omega
          have hbo : Below wo.heap.size wo wi := HB2.out.trans (HK.out.to_below (B := wo.heap.size) (fun b hb => by omega) (by omega))
          have HBo := Lib.hid (bthen HB.out hbo HB.out.size)
          have HO2 := Lib.hid ((HO.out.below hbo (Nat.le_refl _)).alloc (.cells #[.slice (some ⟨wo.heap.size, 0, none⟩) n n] 71))
          have HRM := Lib.hid (HR.out.done (by omega) (by omega))
          have hfl : f.length = n := by rw [HR.out.flen, HBl.out, hjj]
          have HTn : Hid (ComT ⟨(m : Int), (n : Int), gs, rs⟩ n (T ++ [f])) := Lib.hid (fun k' rows hr => by
            rcases Nat.lt_or_ge k' T.length with hlt | hge
            · rw [List.getElem?_append_left hlt] at hr
              exact HT.out k' rows hr
            · rw [List.getElem?_append_right hge] at hr
              have e : k' = k := by have := (List.getElem?_eq_some_iff.1 hr).1; have := HTl.out; simp at *; omega
              subst e
              rw [HTl.out, Nat.sub_self] at hr
              simp at hr
              subst hr
              exact ⟨hfl, HRows.out⟩)
          have hba3 : Below wi.heap.size wi (wi.alloc (.cells #[.slice (some ⟨wo.heap.size, 0, none⟩) n n] 71)) := (Below.refl _ _).alloc (Nat.le_refl _) _
          have HRd : Hid (Dat.rd (wi.alloc (.cells #[.slice (some ⟨wo.heap.size, 0, none⟩) n n] 71)) (OwnT (fun _ => False) w1.heap.size (.slice AT T.length cT) (wi.alloc (.cells #[.slice (some ⟨wo.heap.size, 0, none⟩) n n] 71))) f [.slice (some ⟨wo.heap.size, 0, none⟩) n n]) := Lib.hid ⟨some ⟨wo.heap.size, 0, none⟩, n, by rw [hfl], by rw [hfl]; exact Nat.le_refl _, by simp [maxLen]; omega, (HRM.out.elsR (by omega) (fun b => wo.heap.size ≤ b ∧ b < wi.heap.size) (fun b hb => by
            rcases List.mem_cons.1 hb with rfl | hb
            · exact ⟨Nat.le_refl _, HRM.out.bflt⟩
            · exact ⟨Nat.le_of_lt (HR.out.lt b hb).1, (HR.out.lt b hb).2⟩) |>.below hba3).keep (fun _ _ _ => rfl) (fun b hb => by
            have h1 := HB.out.size
            refine ⟨.inr (by omega), fun e => ?_, Nat.lt_of_lt_of_le hb.2 hba3.size⟩
            have h3 := (HO.out.block b e).2
            omega)⟩
          clear hbo hba3 hfl hR hrows hkp hbl
          go_wp2_with (at_builtin; refine wpList_own1 _ rfl _ _ elemBoolss rfl rfl HO2.out f [.slice (some ⟨wo.heap.size, 0, none⟩) n n] rfl (At.new _ _ _) HRd.out hcap1 hcap2 (Nat.le_trans HBo.out.size ((Below.refl _ _).alloc (Nat.le_refl _) _).size) ?_; intro v' w3 hown3 hg3 hat3; have H3 := Lib.hid (And.intro hown3 hg3); clear hown3 hg3 hat3)
          go_roundw
          case rel => exact ⟨k + 1, T ++ [f], hkn, by go_num, H3.out.1, by rw [List.length_append, HTl.out]; rfl, HTn.out, bgrown (HBo.out.alloc HBo.out.size _) H3.out.2 HO2.out (Nat.le_refl _) (Nat.le_trans HBo.out.size ((Below.refl _ _).alloc (Nat.le_refl _) _).size)⟩
          case measure => simp [intOf]; omega
    · have hkk : k = n + 1 := by omega
      go_wp2
      go_ret
      exact ⟨_, T, rfl, by rw [HTl.out, hkk], HT.out, HO.out.base HB1.out.size, bthen HB1.out HB.out HB1.out.size⟩
end Go.Proofs.YtagcnhiinmiklaaDoor
