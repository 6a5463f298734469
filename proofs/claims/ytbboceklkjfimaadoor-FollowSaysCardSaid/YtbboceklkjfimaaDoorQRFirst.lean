/- Contract: parlref2.FirstOf: the terminals with which what a list becomes may begin. -/
import Derived.Test.YtbboceklkjfimaaDoorQREdges
namespace Go.Proofs.YtbboceklkjfimaaDoor
open Go.RowKit
set_option linter.unusedVariables false

/-- t stands first in what l becomes. -/
def FirstL (g : Gram) (m : Nat) (l : List Sym) (t : Nat) : Prop := ∃ (i : Nat) (x : Sym), l[i]? = some x ∧ Nuls g (l.take i) ∧ WkF g m (nodeS m x) t
def FirstTo (g : Gram) (m : Nat) (l : List Sym) (k t : Nat) : Prop := ∃ (i : Nat) (x : Sym), i < k ∧ l[i]? = some x ∧ Nuls g (l.take i) ∧ WkF g m (nodeS m x) t
theorem FirstTo.stop {g : Gram} {m : Nat} {l : List Sym} {k t : Nat} (h : ¬ Nuls g (l.take k)) : FirstTo g m l k t ↔ FirstL g m l t := by
  constructor
  · rintro ⟨i, x, _, h1, h2, h3⟩
    exact ⟨i, x, h1, h2, h3⟩
  · rintro ⟨i, x, h1, h2, h3⟩
    refine ⟨i, x, ?_, h1, h2, h3⟩
    false_or_by_contra
    rename_i hn
    exact h fun y hy => h2 y (by
      rw [show l.take k = (l.take i).take k from by rw [List.take_take, Nat.min_eq_left (by omega)]] at hy
      exact List.mem_of_mem_take hy)
theorem FirstTo.all {g : Gram} {m : Nat} {l : List Sym} {k t : Nat} (h : l.length ≤ k) : FirstTo g m l k t ↔ FirstL g m l t := by
  constructor
  · rintro ⟨i, x, _, h1, h2, h3⟩
    exact ⟨i, x, h1, h2, h3⟩
  · rintro ⟨i, x, h1, h2, h3⟩
    exact ⟨i, x, by have := (List.getElem?_eq_some_iff.1 h1).1; omega, h1, h2, h3⟩
theorem FirstTo.next {g : Gram} {m : Nat} {l : List Sym} {k t : Nat} {x : Sym} (hx : l[k]? = some x) (hn : Nuls g (l.take k)) : FirstTo g m l (k + 1) t ↔ FirstTo g m l k t ∨ WkF g m (nodeS m x) t := by
  constructor
  · rintro ⟨i, y, h0, h1, h2, h3⟩
    by_cases e : i = k
    · subst e
      rw [hx] at h1
      injection h1 with h1
      subst h1
      exact .inr h3
    · exact .inl ⟨i, y, by omega, h1, h2, h3⟩
  · rintro (⟨i, y, h0, h1, h2, h3⟩ | h)
    · exact ⟨i, y, by omega, h1, h2, h3⟩
    · exact ⟨k, x, by omega, hx, hn, h⟩
theorem orRow_iff {a b : List Bool} (h : a.length = b.length) (t : Nat) : (orRow a b)[t]? = some true ↔ a[t]? = some true ∨ b[t]? = some true :=
  ⟨orRow_or a b t, fun h1 => h1.elim (orRow_left a b t) (orRow_right a b t h)⟩
/-- The row says what P says. -/
def RowIs (m : Nat) (P : Nat → Prop) (row : List Bool) : Prop := row.length = m ∧ ∀ t, t < m → (row[t]? = some true ↔ P t)
theorem RowIs.same {m : Nat} {P : Nat → Prop} {a b : List Bool} (h : RowIs m P a) (k : RowIs m P b) : a = b := by
  apply List.ext_getElem?
  intro i
  by_cases hi : i < m
  · have h1 := (h.2 i hi).trans (k.2 i hi).symm
    obtain ⟨x, hx⟩ := get_some (show i < a.length by rw [h.1]; exact hi)
    obtain ⟨y, hy⟩ := get_some (show i < b.length by rw [k.1]; exact hi)
    rw [hx, hy] at h1 ⊢
    cases x <;> cases y <;> simp at h1 ⊢
  · rw [List.getElem?_eq_none (by rw [h.1]; omega), List.getElem?_eq_none (by rw [k.1]; omega)]

def RfL (g : Gram) (m : Nat) (l : List Sym) (O : Nat) (w4 : World) (i : Value) (wr : World) : Prop :=
  ∃ (k : Nat) (out : List Bool), k ≤ l.length ∧ i = .int .i64 k ∧ RowIs m (FirstTo g m l k) out ∧ Blk' wr O 4 (bcells out) ∧ Kept (fun b => b = O) w4 wr
def RfT (out row : List Bool) (m O : Nat) (w5 : World) (i : Value) (wr : World) : Prop :=
  ∃ t : Nat, t ≤ m ∧ i = .int .i64 t ∧ Blk' wr O 4 (bcells (orRow out (row.take t))) ∧ Kept (fun b => b = O) w5 wr
def RetRFirst (g : Gram) (m : Nat) (l : List Sym) (w : World) (e : Ending) (w' : World) : Prop :=
  ∃ b row, e = .returned (.slice (some ⟨b, 0, none⟩) m m) ∧ RowIs m (FirstL g m l) row ∧ Blk' w' b 4 (bcells row) ∧ w.heap.size ≤ b ∧ Below w.heap.size w w'

set_option maxRecDepth 100000 in
set_option maxHeartbeats 4000000 in
theorem rfirstOf_any (g : Gram) (m n : Nat) (A : Option Addr) (c : Nat) (S : Nat → Prop) (w : World) (L : List Int) (l : List Sym) (B : Option Addr) (d ll : Nat) (Sl : Nat → Prop) (hgt : g.terms = (m : Int)) (hgn : g.nons = (n : Int)) (hck : checkI g = 0) (hlc : g.rules.length ≤ c) (hc : c ≤ 9223372036854775807) (hA : Els w S g.rules A) (hS : ∀ b, S b → b < w.heap.size) (hL : LFix g n L)
    (hll : ll = l.length) (hln : l.length ≤ 9223372036854775807) (hls : ∀ s ∈ l, SymIn m g s) (hld : l.length ≤ d) (hd : d ≤ 9223372036854775807) (hB : Els w Sl l B) (hSl : ∀ b, Sl b → b < w.heap.size) :
    Calls Tryd.prog 21 #[.agg #[.int .i64 g.terms, .int .i64 g.nons, .int .i64 g.start, .slice A g.rules.length c], .slice B ll d] w (RetRFirst g m l w) := by
  subst hll
  have hv := validG_of hck
  have hri := hv.rulesIn hgn
  obtain ⟨gt, gn, gs, rs⟩ := g
  dsimp only at *
  subst hgt; subst hgn
  have hn : 1 ≤ n ∧ n ≤ 10 := by have := hv.n1; have := hv.n10; dsimp only at *; omega
  have hm : 1 ≤ m ∧ m ≤ 8 := by have := hv.t1; have := hv.t8; dsimp only at *; omega
  have hrl : rs.length ≤ 32 := hv.len
  have HN := Lib.hid hn
  have HM8 := Lib.hid hm
  have HRI := Lib.hid hri
  have HA := Lib.hid hA
  have HS := Lib.hid hS
  have HB := Lib.hid hB
  have HSl := Lib.hid hSl
  have HL := Lib.hid hL
  have HLs := Lib.hid hls
  have HC := Lib.hid hck
  have hnl : (nullB L).length = n := by unfold nullB; rw [List.length_map]; exact hL.shape.len
  have HNb : Hid (∀ q ∈ l, q.term = false → ((nullB L)[q.n.toNat]? = some true ↔ Nul ⟨(m : Int), (n : Int), gs, rs⟩ q.n.toNat)) := Lib.hid (fun q hq ht => hL.nullB hri (by have h := (hls q hq).2; rw [ht] at h; simp at h; have := (hls q hq).1; omega))
  have hmk := mkBools m (by omega)
  have hm8 : (m : Int) ≤ 8 := by omega
  have hn10 : (n : Int) ≤ 10 := by omega
  have hl9 := hln
  clear hln
  have hba : Below w.heap.size w (w.alloc (.cells #[.int .i64 (m : Int), .int .i64 (n : Int), .int .i64 gs, .slice A rs.length c] 35)) := (Below.refl _ _).alloc (Nat.le_refl _) _
  obtain ⟨w0, hw0⟩ : ∃ w0 : World, w0 = w.alloc (.cells #[.int .i64 (m : Int), .int .i64 (n : Int), .int .i64 gs, .slice A rs.length c] 35) := ⟨_, rfl⟩
  rw [← hw0] at hba
  have HBa := Lib.hid hba
  have HGa : Hid (Blk' w0 w.heap.size 35 #[.int .i64 (m : Int), .int .i64 (n : Int), .int .i64 gs, .slice A rs.length c]) := Lib.hid (by rw [hw0]; exact Blk'.new w _ _)
  have g0 : w0.cell? ⟨w.heap.size, 0, none⟩ = some (.int .i64 (m : Int)) := HGa.out.cell 0
  have g1 : w0.cell? ⟨w.heap.size, 1, none⟩ = some (.int .i64 (n : Int)) := HGa.out.cell 1
  have g2 : w0.cell? ⟨w.heap.size, 2, none⟩ = some (.int .i64 gs) := HGa.out.cell 2
  have g3 : w0.cell? ⟨w.heap.size, 3, none⟩ = some (.slice A rs.length c) := HGa.out.cell 3
  have zG := HGa.out.lt
  have HW0 := Lib.hid hw0
  clear hv hri hA hS hL hba hn hm hw0 hB hSl hls hck
  go_enter Tryd.func21, Tryd.ntmps21
  go_upto_region 1 with (fail)
  rw [← HW0.out]
  go_region_held3 (fun w' => w'.cell? ⟨w.heap.size, 0, none⟩ = some (.int .i64 (m : Int)) ∧ w'.cell? ⟨w.heap.size, 1, none⟩ = some (.int .i64 (n : Int)) ∧ w'.cell? ⟨w.heap.size, 2, none⟩ = some (.int .i64 gs) ∧ w'.cell? ⟨w.heap.size, 3, none⟩ = some (.slice A rs.length c)) (go_keep)
    (first
    | (go_at_call 22
       refine (rnulls_any ⟨(m : Int), (n : Int), gs, rs⟩ n A c S _ L rfl HN.out hlc hc (HA.out.below HBa.out.drew) (fun b hb => by have := HS.out b hb; have := HBa.out.size; simp; omega) (by show rs.length ≤ 1000; omega) HRI.out HL.out).mono ?_
       rintro e w1 ⟨nb, rfl, hNb, hNge, hb1⟩
       have H1 := Lib.hid (((Below.refl w0.heap.size w0).drew).trans hb1)
       have HN1 := Lib.hid (And.intro hNb hNge)
       have a0 := (H1.out.cell (p := ⟨w.heap.size, 0, none⟩) zG).trans g0
       have a1 := (H1.out.cell (p := ⟨w.heap.size, 1, none⟩) zG).trans g1
       have a2 := (H1.out.cell (p := ⟨w.heap.size, 2, none⟩) zG).trans g2
       have a3 := (H1.out.cell (p := ⟨w.heap.size, 3, none⟩) zG).trans g3
       clear hNb hNge hb1)
    | (go_at_call 66
       refine (redges_any ⟨(m : Int), (n : Int), gs, rs⟩ m n (m + n) false A c S _ L rfl rfl rfl HC.out hlc hc (HA.out.below (bthen HBa.out H1.out HBa.out.size)) (fun b hb => by have := HS.out b hb; have := HBa.out.size; have := H1.out.size; omega) HL.out).mono ?_
       rintro e w2 ⟨bf, bs, f, rfl, hR2, hG2, hbs2, hb2⟩
       have H2 := Lib.hid (bthen H1.out hb2 H1.out.size)
       have HR2 := Lib.hid (And.intro hR2 (And.intro hG2 hbs2))
       have HN2 := Lib.hid (HN1.out.1.below hb2 HN1.out.1.lt)
       have b0 := (H2.out.cell (p := ⟨w.heap.size, 0, none⟩) zG).trans g0
       have b1 := (H2.out.cell (p := ⟨w.heap.size, 1, none⟩) zG).trans g1
       have b2 := (H2.out.cell (p := ⟨w.heap.size, 2, none⟩) zG).trans g2
       have b3 := (H2.out.cell (p := ⟨w.heap.size, 3, none⟩) zG).trans g3
       clear hR2 hG2 hbs2 hb2))
  have hz2 := H2.out.size
  have zG2 : w.heap.size < w2.heap.size := by omega
  obtain ⟨w4, hw4⟩ : ∃ w4 : World, w4 = w2.alloc (.cells (bcells (List.replicate m false)) 4) := ⟨_, rfl⟩
  have hb4 : Below w2.heap.size w2 w4 := by rw [hw4]; exact (Below.refl _ _).alloc (Nat.le_refl _) _
  have HB4 := Lib.hid (bthen (bthen HBa.out H2.out HBa.out.size) hb4 (by have := HBa.out.size; omega))
  have HG4 := Lib.hid ((HGa.out.below H2.out HGa.out.lt).below hb4 zG2)
  have HN4 := Lib.hid (HN2.out.below hb4 HN2.out.lt)
  have HR4 := Lib.hid (And.intro (HR2.out.1.below hb4) (And.intro HR2.out.2.1 (fun b hb => HR2.out.1.lt b hb)))
  have HO4 : Hid (Blk' w4 w2.heap.size 4 (bcells (List.replicate m false))) := Lib.hid (by rw [hw4]; exact Blk'.new _ _ _)
  have hnb2 : nb < w2.heap.size := HN2.out.lt
  have HW4 := Lib.hid hw4
  clear a0 a1 a2 a3 b1 b2 b3 g0 g1 g2 g3 hw4 hb4 HR2 HN2 HN1
  go_upto_region 3 with (fail)
  rw [← HW4.out]
  clear b0
  go_wp2_with fail
  go_loopw [20] (fun i wr => RfL ⟨(m : Int), (n : Int), gs, rs⟩ m l w2.heap.size w4 i wr) (fun i _ => l.length - (intOf i).toNat)
  case atStart =>
    refine ⟨0, _, Nat.zero_le _, rfl, ⟨by simp, fun t ht => ⟨fun h => ?_, fun h => ?_⟩⟩, HO4.out, Kept.refl _ _⟩
    · rw [List.getElem?_replicate] at h; split at h <;> simp at h
    · obtain ⟨i, x, h0, _⟩ := h; omega
  case round =>
    obtain ⟨wo, hwo⟩ : ∃ wo : World, wo = wr := ⟨_, rfl⟩
    subst hwo
    obtain ⟨k, out, hk, rfl, hrow, hO, hkp⟩ := hrel
    have HRw := Lib.hid hrow
    have HO := Lib.hid hO
    have HK := Lib.hid hkp
    have hzo := hkp.size
    have hz4 : w2.heap.size < w4.heap.size := HO4.out.lt
    have HGo := Lib.hid (HG4.out.kept hkp (by omega))
    have HNo := Lib.hid (HN4.out.kept hkp (by omega))
    have HRo := Lib.hid (HR4.out.1.kept hkp (fun b hb e => by have := HR4.out.2.2 b hb; omega))
    have zO := hO.lt
    have HBw := Lib.hid (bthen HB4.out (hkp.to_below (B := w.heap.size) (fun b hb => by omega) (by omega)) (Nat.le_refl _))
    clear hrow hO hkp
    by_cases hkl : k < l.length
    · obtain ⟨x, hx⟩ := get_some hkl
      obtain ⟨bx, ox, eB, hSx, hbx, hxi, hxc0, hxc1⟩ := (HB.out.belowB HBw.out HSl.out).sym hx
      have hsin := HLs.out x (List.mem_of_getElem? hx)
      have HX := Lib.hid hx
      have HEt := Lib.hid ((HB.out.belowB HBw.out HSl.out).takeSym k)
      subst eB
      obtain ⟨st, sn⟩ := x
      dsimp only at hxi hxc0 hxc1 hsin
      have hk0 : (0 : Int) ≤ (k : Int) := by omega
      have hkd : (k : Int) ≤ (d : Int) := by omega
      have hsn := hsin.1
      dsimp only at hsn
      obtain ⟨v0, rfl⟩ : ∃ v0 : Nat, sn = (v0 : Int) := ⟨sn.toNat, by omega⟩
      obtain ⟨nd, hnd1, hnd2, hndN⟩ : ∃ nd : Nat, nodeI (m : Int) ⟨st, (v0 : Int)⟩ = (nd : Int) ∧ nodeS m ⟨st, (v0 : Int)⟩ = nd ∧ nd < m + n := by
        have h := hsin.2
        unfold nodeI nodeS
        cases st
        · simp at h
          exact ⟨m + v0, by simp, by simp, by omega⟩
        · simp at h
          exact ⟨v0, by simp, by simp, by omega⟩
      have HNd := Lib.hid (And.intro hnd1 hnd2)
      have hv100 : v0 ≤ 1000 := by
        have h := hsin.2
        cases st
        · simp at h; omega
        · simp at h; omega
      obtain ⟨ws, hws⟩ : ∃ ws : World, ws = wo.alloc (.cells #[.bool st, .int .i64 (v0 : Int)] 50) := ⟨_, rfl⟩
      have hbs2 : Below wo.heap.size wo ws := by rw [hws]; exact (Below.refl _ _).alloc (Nat.le_refl _) _
      have HSs : Hid (Blk' ws wo.heap.size 50 #[.bool st, .int .i64 (v0 : Int)]) := Lib.hid (by rw [hws]; exact Blk'.new _ _ _)
      have HWs := Lib.hid hws
      have HEts := Lib.hid (HEt.out.below hbs2)
      have HNs := Lib.hid (HNo.out.below hbs2 HNo.out.lt)
      have HGs := Lib.hid (HGo.out.below hbs2 HGo.out.lt)
      have HRs := Lib.hid (HRo.out.below hbs2)
      have HOs := Lib.hid (HO.out.below hbs2 HO.out.lt)
      have HKs := Lib.hid (HK.out.below hbs2)
      have HBs := Lib.hid (bthen HBw.out hbs2 HBw.out.size)
      have htl : (l.take k).length = k := by rw [List.length_take]; omega
      have HTl := Lib.hid htl
      clear hx hxi hws hbs2 hnd1 hnd2 htl HEt
      go_upto_region 6 with (fail)
      rw [← HWs.out]
      go_wp2_with fail
      refine (rempty_any nb n k d (nullB L) (l.take k) (some ⟨bx, ox, none⟩) Sl _ HNs.out hnl HTl.out.symm (by rw [HTl.out]; omega) (fun s hs => by have h := HLs.out s (List.mem_of_mem_take hs); refine ⟨h.1, fun ht => ?_⟩; have h2 := h.2; rw [ht] at h2; simp at h2; have := h.1; omega) HEts.out).mono ?_
      rintro e w5 ⟨rfl, hb5⟩
      have HG5 := Lib.hid (HGs.out.below hb5 HGs.out.lt)
      have HS5 := Lib.hid (HSs.out.below hb5 HSs.out.lt)
      have HR5 := Lib.hid (HRs.out.below hb5)
      have HO5 := Lib.hid (HOs.out.below hb5 HOs.out.lt)
      have HK5 := Lib.hid (HKs.out.below hb5)
      have HB5 := Lib.hid (bthen HBs.out hb5 HBs.out.size)
      have HEm : Hid (emptyB (nullB L) (l.take k) = true ↔ Nuls ⟨(m : Int), (n : Int), gs, rs⟩ (l.take k)) := Lib.hid (by
        rw [emptyB_iff]
        constructor
        · intro h s hs
          exact ⟨(h s hs).1, (HNb.out s (List.mem_of_mem_take hs) (h s hs).1).1 (h s hs).2⟩
        · intro h s hs
          exact ⟨(h s hs).1, (HNb.out s (List.mem_of_mem_take hs) (h s hs).1).2 (h s hs).2⟩)
      clear hb5
      cases he : emptyB (nullB L) (l.take k)
      · have HE := Lib.hid (fun t => @FirstTo.stop ⟨(m : Int), (n : Int), gs, rs⟩ m l k t (fun h => by rw [HEm.out.2 h] at he; cases he))
        clear he
        go_wp2
        go_ret
        exact ⟨_, out, rfl, ⟨HRw.out.1, fun t ht => (HRw.out.2 t ht).trans (HE.out t)⟩, HO5.out, by omega, HB5.out⟩
      · have HE := Lib.hid (HEm.out.1 he)
        clear he
        obtain ⟨row, hrow, hrg, hrlen⟩ := (WarS.of_rows HR5.out).get hndN
        obtain ⟨br, hbr⟩ := get_some (show nd < bs.length by rw [HR5.out.blen]; exact hndN)
        have HRow := Lib.hid (And.intro hrow (And.intro hrg (And.intro hrlen hbr)))
        have hbro : br < w2.heap.size := HR4.out.2.2 br (by simp [List.mem_of_getElem? hbr])
        have hbfo : bf < w2.heap.size := HR4.out.2.2 bf (by simp)
        have hol : out.length = m := HRw.out.1
        clear hrow hrg hrlen hbr
        go_wp2_with fail
        go_loopw [33] (fun i wr => RfT out row m w2.heap.size w5 i wr) (fun i _ => m - (intOf i).toNat)
        case atStart => exact ⟨0, Nat.zero_le _, rfl, by rw [List.take_zero, orRow_nil]; exact HO5.out, Kept.refl _ _⟩
        case round =>
          obtain ⟨wt, hwt⟩ : ∃ wt : World, wt = wr := ⟨_, rfl⟩
          subst hwt
          obtain ⟨t, ht, rfl, hOt, hkt⟩ := hrel
          have HOt := Lib.hid hOt
          have HKt := Lib.hid hkt
          have hzt := hkt.size
          have hz5 : wo.heap.size < w5.heap.size := HS5.out.lt
          have hGt := HG5.out.kept hkt (by omega)
          have hSt := HS5.out.kept hkt (by omega)
          have HRt := Lib.hid (HR5.out.kept hkt (fun b hb e => by have := HR4.out.2.2 b hb; omega))
          have k0 : wt.cell? ⟨w.heap.size, 0, none⟩ = some (.int .i64 (m : Int)) := hGt.cell 0
          have k1 : wt.cell? ⟨w.heap.size, 1, none⟩ = some (.int .i64 (n : Int)) := hGt.cell 1
          have k2 : wt.cell? ⟨w.heap.size, 2, none⟩ = some (.int .i64 gs) := hGt.cell 2
          have k3 : wt.cell? ⟨w.heap.size, 3, none⟩ = some (.slice A rs.length c) := hGt.cell 3
          have y0 : wt.cell? ⟨wo.heap.size, 0, none⟩ = some (.bool st) := hSt.cell 0
          have y1 : wt.cell? ⟨wo.heap.size, 1, none⟩ = some (.int .i64 (v0 : Int)) := hSt.cell 1
          have zGt := hGt.lt
          have zSt := hSt.lt
          have zOt := hOt.lt
          clear hOt hkt hGt hSt
          by_cases htm : t < m
          · obtain ⟨x, hx⟩ := get_some (show t < out.length by omega)
            obtain ⟨y, hy⟩ := get_some (show t < row.length by have := HRow.out.2.2.1; omega)
            have ht0 : (0 : Int) ≤ (t : Int) := by omega
            have ht9 : (t : Int) < (m : Int) := by omega
            have ht99 : (t : Int) < (m : Int) + (n : Int) := by omega
            have hnd9 : (nd : Int) < (m : Int) + (n : Int) := by omega
            have cO : wt.cell? ⟨w2.heap.size, t, none⟩ = some (.bool x) := (HOt.out.cell _).trans (bcells_get (orRow_get _ _ _ _ _ hx (Nat.le_refl _)))
            have fO := HOt.out.frozen t
            have HT := Lib.hid (orRow_take out row t x y hx hy)
            have HY := Lib.hid hy
            clear hx hy
            cases x
            · go_wp2_with fail
              refine (rnode_any (m : Int) (n : Int) gs _ ⟨st, (v0 : Int)⟩ _ ⟨_, _, _, rfl⟩ (by omega) (by dsimp only; omega)).mono ?_
              rintro e w6 ⟨rfl, hb6⟩
              rw [HNd.out.1]
              have hR6 := HRt.out.below hb6
              have c1 : w6.cell? ⟨bf, nd, none⟩ = some (.slice (some ⟨br, 0, none⟩) (m + n) (m + n)) := hR6.outer _ br HRow.out.2.2.2
              have c2 : w6.cell? ⟨br, t, none⟩ = some (.bool y) := ((hR6.rows _ br row HRow.out.2.2.2 HRow.out.1).1.cell _).trans (bcells_get HY.out)
              have hO6 := HOt.out.below hb6 HOt.out.lt
              have c3 : w6.cell? ⟨w2.heap.size, t, none⟩ = some (.bool false) := (hb6.cell (p := ⟨w2.heap.size, t, none⟩) zOt).trans cO
              have f3 := hO6.frozen t
              have zO6 := hO6.lt
              have zf6 := hR6.bflt
              have zr6 := (hR6.rows _ br row HRow.out.2.2.2 HRow.out.1).1.lt
              have HN6 : Hid (Blk' (w6.setCell ⟨w2.heap.size, t, none⟩ (.bool y)) w2.heap.size 4 (bcells (orRow out (row.take (t + 1))))) := Lib.hid (by rw [HT.out, ← bcells_set]; exact hO6.set_ t _)
              have HK6 : Hid (Kept (fun b => b = w2.heap.size) w5 (w6.setCell ⟨w2.heap.size, t, none⟩ (.bool y))) := Lib.hid ((HKt.out.below hb6).setCell (p := ⟨w2.heap.size, t, none⟩) (.inl rfl) _)
              clear hb6 hR6 hO6 k0 k1 k2 k3 y0 y1 cO fO
              go_wp2
              go_roundw
              case rel => exact ⟨t + 1, htm, by go_num, HN6.out, HK6.out⟩
              case measure => simp [intOf]; omega
            · have HN6 : Hid (Blk' (wt.setCell ⟨w2.heap.size, t, none⟩ (.bool true)) w2.heap.size 4 (bcells (orRow out (row.take (t + 1))))) := Lib.hid (by rw [HT.out, Bool.true_or, ← bcells_set]; exact HOt.out.set_ t _)
              have HK6 : Hid (Kept (fun b => b = w2.heap.size) w5 (wt.setCell ⟨w2.heap.size, t, none⟩ (.bool true))) := Lib.hid (HKt.out.setCell (p := ⟨w2.heap.size, t, none⟩) (.inl rfl) _)
              go_wp2
              go_roundw
              case rel => exact ⟨t + 1, htm, by go_num, HN6.out, HK6.out⟩
              case measure => simp [intOf]; omega
          · have htm2 : t = m := by omega
            have hrl2 : (row.take m).length = m := by rw [List.length_take]; have := HRow.out.2.2.1; omega
            have HF : Hid (RowIs m (FirstTo ⟨(m : Int), (n : Int), gs, rs⟩ m l (k + 1)) (orRow out (row.take m))) := Lib.hid ⟨by rw [orRow_len]; exact hol, fun u hu => by
              rw [orRow_iff (by omega) u, HRw.out.2 u hu, FirstTo.next HX.out HE.out, HNd.out.2]
              have h1 := HR4.out.2.1 nd u hndN
              unfold Gt at h1
              rw [HRow.out.2.1] at h1
              rw [List.getElem?_take, if_pos hu, h1, WkB.first]⟩
            have HKe := Lib.hid (HK5.out.trans HKt.out)
            have HOe := Lib.hid (show Blk' wt w2.heap.size 4 (bcells (orRow out (row.take m))) by have h := HOt.out; rw [htm2] at h; exact h)
            clear htm2 hrl2
            go_wp2
            go_roundw
            case rel => exact ⟨k + 1, _, hkl, by go_num, HF.out, HOe.out, HKe.out⟩
            case measure => simp [intOf]; omega
    · have hkk : l.length ≤ k := by omega
      have HE := Lib.hid (fun t => @FirstTo.all ⟨(m : Int), (n : Int), gs, rs⟩ m l k t hkk)
      go_wp2
      go_ret
      exact ⟨_, out, rfl, ⟨HRw.out.1, fun t ht => (HRw.out.2 t ht).trans (HE.out t)⟩, HO.out, by omega, HBw.out⟩
end Go.Proofs.YtbboceklkjfimaaDoor
