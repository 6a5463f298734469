/- Contract: parlref2.LeftOf. -/
import Derived.Test.YtagcnhiinmiklaaDoorQREdges
import Derived.Test.YtagcnhiinmiklaaDoorQRecur
import Derived.Test.YtagcnhiinmiklaaDoorQp1
import Derived.Deep.RegionHeld3
namespace Go.Proofs.YtagcnhiinmiklaaDoor
open Go.RowKit
set_option linter.unusedVariables false

/-! ### The plain side -/
def LefQ (g : Gram) (m : Nat) (j : Nat) (k i : Nat) : Prop :=
  ∃ (k' i' : Nat) (q : Rule) (x : Sym), g.rules[k']? = some q ∧ q.left = (j : Int) ∧ q.right[i']? = some x ∧ Nuls g (q.right.take i') ∧ WkB g m false (nodeS m x) (m + j) ∧ (k' < k ∨ (k' = k ∧ i' < i))
section
variable {g : Gram} {m j k i : Nat} {q : Rule} {x : Sym}
theorem LefQ.zero : ¬ LefQ g m j 0 0 := by
  rintro ⟨k', i', q, x, _, _, _, _, _, h⟩; omega
theorem LefQ.hit (hq : g.rules[k]? = some q) (hx : q.right[i]? = some x) : LefQ g m j k (i + 1) ↔ LefQ g m j k i ∨ (q.left = (j : Int) ∧ Nuls g (q.right.take i) ∧ WkB g m false (nodeS m x) (m + j)) := by
  constructor
  · rintro ⟨k', i', q', x', h1, h2, h3, h4, h5, h6⟩
    by_cases e : k' = k ∧ i' = i
    · obtain ⟨rfl, rfl⟩ := e
      rw [hq] at h1; injection h1 with h1; subst h1
      rw [hx] at h3; injection h3 with h3; subst h3
      exact .inr ⟨h2, h4, h5⟩
    · exact .inl ⟨k', i', q', x', h1, h2, h3, h4, h5, by omega⟩
  · rintro (⟨k', i', q', x', h1, h2, h3, h4, h5, h6⟩ | ⟨h2, h4, h5⟩)
    · exact ⟨k', i', q', x', h1, h2, h3, h4, h5, by omega⟩
    · exact ⟨k, i, q, x, hq, h2, hx, h4, h5, by omega⟩
theorem LefQ.rule (hq : g.rules[k]? = some q) : LefQ g m j (k + 1) 0 ↔ LefQ g m j k q.right.length := by
  constructor
  · rintro ⟨k', i', q', x', h1, h2, h3, h4, h5, h6⟩
    refine ⟨k', i', q', x', h1, h2, h3, h4, h5, ?_⟩
    by_cases e : k' = k
    · subst e
      rw [hq] at h1; injection h1 with h1; subst h1
      exact .inr ⟨rfl, (List.getElem?_eq_some_iff.1 h3).1⟩
    · omega
  · rintro ⟨k', i', q', x', h1, h2, h3, h4, h5, h6⟩
    exact ⟨k', i', q', x', h1, h2, h3, h4, h5, by omega⟩
end
theorem wk_plus {g : Gram} {m c : Nat} (hv : ValidG g) (hs : ∀ q ∈ g.rules, ∀ s ∈ q.right, SymIn m g s) {d : Nat} (h : WkB g m false (m + c) d) : ∀ e, d = m + e → e = c ∨ Plus (LedE g) c e := by
  induction h with
  | refl => intro e h; exact .inl (by omega)
  | snoc b d hb hsn ih =>
    intro e he
    obtain ⟨q, i, x, hq, hx, hn, h1, h2⟩ := hsn
    have hxi := hs q hq x (List.mem_of_getElem? hx)
    obtain ⟨xt, xn⟩ := x
    cases xt with
    | true =>
      exfalso
      have h3 : nodeS m ⟨true, xn⟩ = xn.toNat := rfl
      have h4 := hxi.1
      have h5 : xn < (m : Int) := by have := hxi.2; simpa using this
      rw [h3] at h2
      dsimp only at h4
      omega
    | false =>
      have h3 : nodeS m ⟨false, xn⟩ = m + xn.toNat := rfl
      rw [h3] at h2
      have h4 : 0 ≤ xn := hxi.1
      have hst : q.left = ((q.left.toNat : Nat) : Int) ∨ q.left < 0 := by omega
      have hle : 0 ≤ q.left → LedE g q.left.toNat e := fun h0 => ⟨q, hq, by omega, i, by rw [hx]; congr 2; omega, hn⟩
      by_cases h0 : 0 ≤ q.left
      · rcases ih q.left.toNat h1 with h | h
        · rw [← h]; exact .inr (.one _ (hle h0))
        · exact .inr (.snoc _ _ h (hle h0))
      · exact absurd (hv.rules q hq).1 h0
theorem stp_wk {g : Gram} {m : Nat} : ∀ (k c j : Nat), Stp (LedE g) k c j → WkF g m (m + c) (m + j)
  | 0, c, j, h => by
    have e : c = j := h
    subst e; exact .refl _
  | k + 1, c, j, ⟨d, ⟨q, hq, hl, i, hx, hn⟩, h2⟩ => by
    refine .head _ (m + d) _ ⟨q, i, ⟨false, (d : Int)⟩, hq, hx, hn, by rw [hl]; simp, by simp [nodeS]⟩ (stp_wk k d j h2)
theorem lefQ_iff {g : Gram} {m : Nat} (hv : ValidG g) (hm : g.terms = (m : Int)) (j : Nat) : LefQ g m j g.rules.length 0 ↔ Plus (LedE g) j j := by
  have hs := hv.symIn hm
  constructor
  · rintro ⟨k', i', q, x, h1, h2, h3, h4, h5, _⟩
    have hq := List.mem_of_getElem? h1
    have hxi := hs q hq x (List.mem_of_getElem? h3)
    obtain ⟨xt, xn⟩ := x
    cases xt with
    | true =>
      exfalso
      have h6 : nodeS m ⟨true, xn⟩ = xn.toNat := rfl
      have h7 : xn < (m : Int) := by have := hxi.2; simpa [hm] using this
      have h8 : 0 ≤ xn := hxi.1
      rw [h6] at h5
      have := WkF.term (by omega) (WkB.first.1 h5)
      omega
    | false =>
      have h6 : nodeS m ⟨false, xn⟩ = m + xn.toNat := rfl
      have h8 : 0 ≤ xn := hxi.1
      rw [h6] at h5
      have hle : LedE g j xn.toNat := ⟨q, hq, h2, i', by rw [h3]; congr 2; omega, h4⟩
      rcases wk_plus hv hs h5 j rfl with h | h
      · rw [← h] at hle; exact .one _ hle
      · exact (Plus.one _ hle).trans h
  · intro h
    obtain ⟨k, c, ⟨q, hq, hl, i, hx, hn⟩, h2⟩ := h.stp
    obtain ⟨k', hk⟩ := List.mem_iff_getElem?.1 hq
    exact ⟨k', i, q, ⟨false, (c : Int)⟩, hk, hl, hx, hn, WkB.first.2 (by simpa [nodeS] using stp_wk k c j h2), .inl (List.getElem?_eq_some_iff.1 hk).1⟩
def LfO (P : Nat → Prop) (n : Nat) (w2 : World) (v i : Value) (wr : World) : Prop :=
  ∃ (j : Nat) (l : List Int), j ≤ n ∧ i = .int .i64 j ∧ FiltIs P j l ∧ Own wr (fun _ => False) w2.heap.size 3 v l ∧ Below w2.heap.size w2 wr
def LfK (Q : Nat → Prop) (N : Nat) (w : World) (b i : Value) (wr : World) : Prop :=
  ∃ (k : Nat) (bb : Bool), k ≤ N ∧ i = .int .i64 k ∧ b = .bool bb ∧ (bb = true ↔ Q k) ∧ Below w.heap.size w wr

set_option maxRecDepth 100000 in
set_option maxHeartbeats 16000000 in
theorem rleft_any (g : Gram) (m n : Nat) (A : Option Addr) (c : Nat) (S : Nat → Prop) (w : World) (L : List Int) (hgt : g.terms = (m : Int)) (hgn : g.nons = (n : Int)) (hck : checkI g = 0) (hlc : g.rules.length ≤ c) (hc : c ≤ 9223372036854775807) (hA : Els w S g.rules A) (hS : ∀ b, S b → b < w.heap.size) (hL : LFix g n L) :
    Calls Tryd.prog 21 #[.agg #[.int .i64 g.terms, .int .i64 g.nons, .int .i64 g.start, .slice A g.rules.length c]] w fun e w' => ∃ v l, e = .returned v ∧ FiltIs (fun j => Plus (LedE g) j j) n l ∧ Own w' (fun _ => False) w.heap.size 3 v l ∧ Below w.heap.size w w' := by
  have hv := validG_of hck
  have hri := hv.rulesIn hgn
  have hlef := fun j => lefQ_iff hv hgt j
  have hsi := hv.symIn hgt
  obtain ⟨gt, gn, gs, rs⟩ := g
  dsimp only at *
  subst hgt; subst hgn
  have hn : 1 ≤ n ∧ n ≤ 10 := by have := hv.n1; have := hv.n10; dsimp only at *; omega
  have hm : 1 ≤ m ∧ m ≤ 8 := by have := hv.t1; have := hv.t8; dsimp only at *; omega
  have hrl : rs.length ≤ 32 := hv.len
  have hrr4 : ∀ q ∈ rs, q.right.length ≤ 4 := fun q hq => (hv.rules q hq).2.2.1
  have HN := Lib.hid hn
  have HRR := Lib.hid hrr4
  have HRI := Lib.hid hri
  have HSI := Lib.hid hsi
  have HLef := Lib.hid hlef
  have HC := Lib.hid hck
  have HA := Lib.hid hA
  have HS := Lib.hid hS
  have HL := Lib.hid hL
  have hnl : (nullB L).length = n := by unfold nullB; rw [List.length_map]; exact hL.shape.len
  have HNl := Lib.hid hnl
  have HEq : Hid (∀ q ∈ rs, ∀ l : List Sym, (∀ s ∈ l, s ∈ q.right) → (emptyB (nullB L) l = true ↔ Nuls ⟨(m : Int), (n : Int), gs, rs⟩ l)) := Lib.hid (fun q hq l hl => by
    rw [emptyB_iff]
    constructor
    · intro h s hs
      have h1 := h s hs
      exact ⟨h1.1, (hL.nullB hri (((hri q hq).2.2.2 s (hl s hs)).2 h1.1)).1 h1.2⟩
    · intro h s hs
      have h1 := h s hs
      exact ⟨h1.1, (hL.nullB hri (((hri q hq).2.2.2 s (hl s hs)).2 h1.1)).2 h1.2⟩)
  have hn10 : (n : Int) ≤ 10 := by omega
  have hn1 := hn.1
  have hnb := hn.2
  have hm8 := hm.2
  obtain ⟨w0, hw0⟩ : ∃ w0 : World, w0 = w.alloc (.cells #[.int .i64 (m : Int), .int .i64 (n : Int), .int .i64 gs, .slice A rs.length c] 24) := ⟨_, rfl⟩
  have hba : Below w.heap.size w w0 := by rw [hw0]; exact (Below.refl _ _).alloc (Nat.le_refl _) _
  have HBa := Lib.hid hba
  have HGa : Hid (Blk' w0 w.heap.size 24 #[.int .i64 (m : Int), .int .i64 (n : Int), .int .i64 gs, .slice A rs.length c]) := Lib.hid (by rw [hw0]; exact Blk'.new w _ _)
  have HW0 := Lib.hid hw0
  have g0 : w0.cell? ⟨w.heap.size, 0, none⟩ = some (.int .i64 (m : Int)) := HGa.out.cell 0
  have g1 : w0.cell? ⟨w.heap.size, 1, none⟩ = some (.int .i64 (n : Int)) := HGa.out.cell 1
  have g2 : w0.cell? ⟨w.heap.size, 2, none⟩ = some (.int .i64 gs) := HGa.out.cell 2
  have g3 : w0.cell? ⟨w.heap.size, 3, none⟩ = some (.slice A rs.length c) := HGa.out.cell 3
  have zG := HGa.out.lt
  clear hw0 hba hA hS hri hv hnl hL hrr4 hn hck hsi hlef hm
  go_enter Tryd.func21, Tryd.ntmps21
  go_upto_region 1 with (fail)
  rw [← HW0.out]
  go_region_held3 (fun w' => w'.cell? ⟨w.heap.size, 0, none⟩ = some (.int .i64 (m : Int)) ∧ w'.cell? ⟨w.heap.size, 1, none⟩ = some (.int .i64 (n : Int)) ∧ w'.cell? ⟨w.heap.size, 2, none⟩ = some (.int .i64 gs) ∧ w'.cell? ⟨w.heap.size, 3, none⟩ = some (.slice A rs.length c)) (go_keep)
    (first
    | (go_at_call 33
       refine (rnulls_any ⟨(m : Int), (n : Int), gs, rs⟩ n A c S _ L rfl HN.out hlc hc (HA.out.below HBa.out.drew) (fun b hb => by have := HS.out b hb; have := HBa.out.size; simp; omega) (by show rs.length ≤ 1000; omega) HRI.out HL.out).mono ?_
       rintro e w1 ⟨nb, rfl, hNb, hNge, hb1⟩
       have H1 := Lib.hid (((Below.refl w0.heap.size w0).drew).trans hb1)
       have HN1 := Lib.hid (And.intro hNb hNge)
       have a0 := (H1.out.cell (p := ⟨w.heap.size, 0, none⟩) zG).trans g0
       have a1 := (H1.out.cell (p := ⟨w.heap.size, 1, none⟩) zG).trans g1
       have a2 := (H1.out.cell (p := ⟨w.heap.size, 2, none⟩) zG).trans g2
       have a3 := (H1.out.cell (p := ⟨w.heap.size, 3, none⟩) zG).trans g3
       clear hNb hNge hb1)
    | (go_at_call 38
       refine (redges_any ⟨(m : Int), (n : Int), gs, rs⟩ m n (m + n) false A c S _ L rfl rfl rfl HC.out hlc hc (HA.out.below (bthen HBa.out H1.out HBa.out.size)) (fun b hb => by have := HS.out b hb; have := HBa.out.size; have := H1.out.size; omega) HL.out).mono ?_
       rintro e w2 ⟨bf, bs, f, rfl, hR2, hT2, hbs2, hb2⟩
       have H2 := Lib.hid (bthen H1.out hb2 H1.out.size)
       have HR2 := Lib.hid (And.intro hR2 hT2)
       have HN2 := Lib.hid (HN1.out.1.below hb2 HN1.out.1.lt)
       have b0 := (H2.out.cell (p := ⟨w.heap.size, 0, none⟩) zG).trans g0
       have b1 := (H2.out.cell (p := ⟨w.heap.size, 1, none⟩) zG).trans g1
       have b2 := (H2.out.cell (p := ⟨w.heap.size, 2, none⟩) zG).trans g2
       have b3 := (H2.out.cell (p := ⟨w.heap.size, 3, none⟩) zG).trans g3
       clear hR2 hT2 hbs2 hb2))
  have HB2 := Lib.hid (bthen HBa.out H2.out HBa.out.size)
  have HG2 := Lib.hid (HGa.out.below H2.out HGa.out.lt)
  have hrl9 : rs.length ≤ 9223372036854775807 := by omega
  have hzw2 : w.heap.size < w2.heap.size := HG2.out.lt
  clear a0 a1 a2 a3 b0 b2 b3 g0 g1 g2 g3 HN1 H1 H2 HBa HGa HW0
  go_wp2_with fail
  clear b1
  go_loopw [5, 18] (fun v i wr => LfO (fun j => LefQ ⟨(m : Int), (n : Int), gs, rs⟩ m j rs.length 0) n w2 v i wr) (fun _ i _ => n - (intOf i).toNat)
  case atStart => exact ⟨0, [], Nat.zero_le _, rfl, rfl, Own.nil _ _ _ _, Below.refl _ _⟩
  case round =>
    obtain ⟨wo, hwo⟩ : ∃ wo : World, wo = wr := ⟨_, rfl⟩
    subst hwo
    obtain ⟨j, l, hj, rfl, hfl, hown, hb⟩ := hrel
    obtain ⟨Al, cl, rfl, hcl1, hcl2, _⟩ := hown.form
    have HFl := Lib.hid hfl
    have HOw := Lib.hid hown
    have HBo := Lib.hid hb
    have hl9 : l.length ≤ n := by have := hfl.len; omega
    have HGo := Lib.hid (HG2.out.below hb HG2.out.lt)
    have hzo : w2.heap.size ≤ wo.heap.size := hb.size
    clear hfl hown hb
    by_cases hjn : j < n
    · have hj0 : (0 : Int) ≤ (j : Int) := by omega
      have hj9 : (j : Int) < (n : Int) := by omega
      have a3 : wo.cell? ⟨w.heap.size, 3, none⟩ = some (.slice A rs.length c) := HGo.out.cell 3
      have zGo : w.heap.size < wo.heap.size := HGo.out.lt
      go_wp2_with fail
      clear a3
      go_loopw [7, 24] (fun b i wr => LfK (fun k => LefQ ⟨(m : Int), (n : Int), gs, rs⟩ m j k 0) rs.length wo b i wr) (fun _ i _ => rs.length - (intOf i).toNat)
      case atStart => exact ⟨0, false, Nat.zero_le _, rfl, rfl, ⟨(fun h => by cases h), fun h => absurd h LefQ.zero⟩, Below.refl _ _⟩
      case round =>
        obtain ⟨wk, hwk⟩ : ∃ wk : World, wk = wr := ⟨_, rfl⟩
        subst hwk
        obtain ⟨kk, bb, hkk, rfl, rfl, hbb, hb⟩ := hrel
        have HBB : Hid (bb = true ↔ LefQ ⟨(m : Int), (n : Int), gs, rs⟩ m j kk 0) := Lib.hid hbb
        have HBk := Lib.hid hb
        have HB2k := Lib.hid (bthen HBo.out hb HBo.out.size)
        have HBwk := Lib.hid (bthen HB2.out HB2k.out HB2.out.size)
        have HGk := Lib.hid (HGo.out.below hb HGo.out.lt)
        have hzk : wo.heap.size ≤ wk.heap.size := hb.size
        clear hbb hb
        by_cases hkl : kk < rs.length
        · obtain ⟨q2, hq2⟩ := get_some hkl
          have hAk : Els wk S rs A := HA.out.belowB HBwk.out HS.out
          obtain ⟨bq, oq, Aq, cq, rfl, hSbq, hbs, hqi, hrc, hcr, hEr2, hc0, hc1⟩ := hAk.rule hq2
          have HQ2 := Lib.hid (And.intro hq2 (HRR.out q2 (List.mem_of_getElem? hq2)))
          have HRq := Lib.hid (HRI.out q2 (List.mem_of_getElem? hq2))
          have HSq := Lib.hid (HSI.out q2 (List.mem_of_getElem? hq2))
          have HEqq := Lib.hid (HEq.out q2 (List.mem_of_getElem? hq2))
          obtain ⟨ql, qr⟩ := q2
          dsimp only at hqi hrc hcr hEr2 hc0 hc1
          have hkk0 : (0 : Int) ≤ (kk : Int) := by omega
          have hqr4 : qr.length ≤ 4 := HQ2.out.2
          have hqr9 : qr.length ≤ 9223372036854775807 := by omega
          obtain ⟨wx, hwx⟩ : ∃ wx : World, wx = wk.alloc (.cells #[.int .i64 ql, .slice Aq qr.length cq] 49) := ⟨_, rfl⟩
          have HWx := Lib.hid hwx
          have hbx : Below wk.heap.size wk wx := by rw [hwx]; exact (Below.refl _ _).alloc (Nat.le_refl _) _
          have HXb : Hid (Blk' wx wk.heap.size 49 #[.int .i64 ql, .slice Aq qr.length cq]) := Lib.hid (by rw [hwx]; exact Blk'.new _ _ _)
          have HGx := Lib.hid (HGk.out.below hbx HGk.out.lt)
          have HBx := Lib.hid (bthen HBk.out hbx HBk.out.size)
          have HEr : Hid (Els wx S qr Aq) := Lib.hid (hEr2.below hbx)
          have zx : wk.heap.size < wx.heap.size := by rw [hwx]; simp
          have x1 : wx.cell? ⟨wk.heap.size, 1, none⟩ = some (.slice Aq qr.length cq) := HXb.out.cell 1
          clear hq2 hwx hbx hAk hEr2 hqi
          go_upto_region 10 with (fail)
          rw [← HWx.out]
          clear hc0 hc1
          go_wp2_with fail
          clear x1
          go_loopw [7, 31] (fun b i wr => LfK (fun i => LefQ ⟨(m : Int), (n : Int), gs, rs⟩ m j kk i) qr.length wx b i wr) (fun _ i _ => qr.length - (intOf i).toNat)
          case atStart => exact ⟨0, bb, Nat.zero_le _, rfl, rfl, HBB.out, Below.refl _ _⟩
          case round =>
            obtain ⟨wc, hwc⟩ : ∃ wc : World, wc = wr := ⟨_, rfl⟩
            subst hwc
            obtain ⟨i, iv, hi, rfl, rfl, hiv, hb⟩ := hrel
            have HIv : Hid (iv = true ↔ LefQ ⟨(m : Int), (n : Int), gs, rs⟩ m j kk i) := Lib.hid hiv
            have HBxc := Lib.hid hb
            have HBoc := Lib.hid (bthen HBx.out hb HBx.out.size)
            have HB2c := Lib.hid (bthen HBo.out HBoc.out HBo.out.size)
            have hzc : wx.heap.size ≤ wc.heap.size := hb.size
            clear hiv hb
            by_cases hil : i < qr.length
            · obtain ⟨s, hs⟩ := get_some hil
              obtain ⟨bx, ox, rfl, hSx, hbx, hxi, hxc0, hxc1⟩ := (HEr.out.below HBxc.out).sym hs
              have hsi := HSq.out s (List.mem_of_getElem? hs)
              have HHit := Lib.hid (LefQ.hit (g := ⟨(m : Int), (n : Int), gs, rs⟩) (q := ⟨ql, qr⟩) (j := j) (m := m) HQ2.out.1 hs)
              obtain ⟨st, sn⟩ := s
              dsimp only at hxi hxc0 hxc1
              have hi0 : (0 : Int) ≤ (i : Int) := by omega
              have hsn0 : 0 ≤ sn := hsi.1
              have hsn9 : sn ≤ 10 := by have h := hsi.2; dsimp only at h; split at h <;> omega
              have hnd : nodeS m ⟨st, sn⟩ < m + n := by
                have h := hsi.2
                dsimp only at h
                unfold nodeS
                cases st <;> simp at h ⊢ <;> omega
              obtain ⟨nd, hnde⟩ : ∃ nd, nd = nodeS m ⟨st, sn⟩ := ⟨_, rfl⟩
              have hni : nodeI (m : Int) ⟨st, sn⟩ = (nd : Int) := by
                rw [hnde]; unfold nodeI nodeS
                cases st <;> simp <;> omega
              rw [← hnde] at hnd
              have HNd := Lib.hid (And.intro hnde hni)
              obtain ⟨row, hrow, hrg, hrlen⟩ := (WarS.of_rows HR2.out.1).get hnd
              obtain ⟨br, hbr⟩ := get_some (show nd < bs.length by rw [HR2.out.1.blen]; exact hnd)
              obtain ⟨z, hz⟩ := get_some (show m + j < row.length by omega)
              have HZ : Hid (z = true ↔ WkB ⟨(m : Int), (n : Int), gs, rs⟩ m false (nodeS m ⟨st, sn⟩) (m + j)) := Lib.hid (by
                rw [← hnde, ← HR2.out.2 nd (m + j) hnd]
                unfold Gt
                rw [hrg, hz]
                simp)
              have HRow := Lib.hid (And.intro hrow (And.intro hbr hz))
              obtain ⟨ws, hws⟩ : ∃ ws : World, ws = wc.alloc (.cells #[.bool st, .int .i64 sn] 45) := ⟨_, rfl⟩
              have HWs := Lib.hid hws
              have hbs2 : Below wc.heap.size wc ws := by rw [hws]; exact (Below.refl _ _).alloc (Nat.le_refl _) _
              have HBxs := Lib.hid (bthen HBxc.out hbs2 HBxc.out.size)
              have HB2s := Lib.hid (bthen HB2c.out hbs2 HB2c.out.size)
              have HYs : Hid (Blk' ws wc.heap.size 45 #[.bool st, .int .i64 sn]) := Lib.hid (by rw [hws]; exact Blk'.new _ _ _)
              have HXs := Lib.hid (HXb.out.below HBxs.out HXb.out.lt)
              have HGs := Lib.hid (HGx.out.below HBxs.out HGx.out.lt)
              have HNs := Lib.hid (HN2.out.below HB2s.out HN2.out.lt)
              have HRs := Lib.hid (HR2.out.1.below HB2s.out)
              have HEs := Lib.hid ((HEr.out.below HBxs.out).takeS i)
              have htl : (qr.take i).length = i := by rw [List.length_take]; omega
              have HTl := Lib.hid htl
              have hicq : (i : Int) ≤ (cq : Int) := by omega
              have y0 : ws.cell? ⟨wc.heap.size, 0, none⟩ = some (.bool st) := HYs.out.cell 0
              have y1 : ws.cell? ⟨wc.heap.size, 1, none⟩ = some (.int .i64 sn) := HYs.out.cell 1
              have x0 : ws.cell? ⟨wk.heap.size, 0, none⟩ = some (.int .i64 ql) := HXs.out.cell 0
              have x1 : ws.cell? ⟨wk.heap.size, 1, none⟩ = some (.slice (some ⟨bx, ox, none⟩) qr.length cq) := HXs.out.cell 1
              have g0 : ws.cell? ⟨w.heap.size, 0, none⟩ = some (.int .i64 (m : Int)) := HGs.out.cell 0
              have g1 : ws.cell? ⟨w.heap.size, 1, none⟩ = some (.int .i64 (n : Int)) := HGs.out.cell 1
              have g2 : ws.cell? ⟨w.heap.size, 2, none⟩ = some (.int .i64 gs) := HGs.out.cell 2
              have g3 : ws.cell? ⟨w.heap.size, 3, none⟩ = some (.slice (some ⟨bq, oq, none⟩) rs.length c) := HGs.out.cell 3
              have zy : wc.heap.size < ws.heap.size := HYs.out.lt
              have zxs : wk.heap.size < ws.heap.size := HXs.out.lt
              have zgs : w.heap.size < ws.heap.size := HGs.out.lt
              clear hs hsi hws hbs2 htl hxi hnde hni hrow hrg hrlen hbr hz
              go_upto_region 13 with (fail)
              rw [← HWs.out]
              clear hxc0 hxc1
              cases iv
              · by_cases hql : ql = (j : Int)
                · have HQl := Lib.hid hql
                  have hle : (ql == (j : Int)) = true := by simp [hql]
                  clear hql
                  refine wp_region_noPanic ?_
                  refine wp_region_held_drew (S := (fun w' => w'.cell? ⟨w.heap.size, 0, none⟩ = some (.int .i64 (m : Int)) ∧ w'.cell? ⟨w.heap.size, 1, none⟩ = some (.int .i64 (n : Int)) ∧ w'.cell? ⟨w.heap.size, 2, none⟩ = some (.int .i64 gs) ∧ w'.cell? ⟨w.heap.size, 3, none⟩ = some (.slice (some ⟨bq, oq, none⟩) rs.length c) ∧ w'.cell? ⟨wk.heap.size, 0, none⟩ = some (.int .i64 ql) ∧ w'.cell? ⟨wk.heap.size, 1, none⟩ = some (.slice (some ⟨bx, ox, none⟩) qr.length cq) ∧ w'.cell? ⟨wc.heap.size, 0, none⟩ = some (.bool st) ∧ w'.cell? ⟨wc.heap.size, 1, none⟩ = some (.int .i64 sn))) (by kernel_rfl) ?ha (fun hHeld => ?ba)
                  case ha => ((try dsimp only); go_keep)
                  refine take_run (i := 0) (v := ?va0) rfl (by kernel_rfl) (by kernel_rfl) (by kernel_rfl) (fun _ _ _ h => h) (by rfl) ?ya0 (by assumption) ?ra0
                  case ya0 => (intro w hSw; (try dsimp only at hSw); go_simp; try with_reducible rfl)
                  try simp only [Act.put, List.setIfInBounds_toArray, List.set_cons_zero, List.set_cons_succ]
                  refine take_run (i := 1) (v := ?va1) rfl (by kernel_rfl) (by kernel_rfl) (by kernel_rfl) (fun _ _ _ h => h) (by rfl) ?ya1 (by assumption) ?ra1
                  case ya1 => (intro w hSw; (try dsimp only at hSw); go_simp; try with_reducible rfl)
                  try simp only [Act.put, List.setIfInBounds_toArray, List.set_cons_zero, List.set_cons_succ]
                  refine take_run (i := 2) (v := ?va2) rfl (by kernel_rfl) (by kernel_rfl) (by kernel_rfl) (fun _ _ _ h => h) (by rfl) ?ya2 (by assumption) ?ra2
                  case ya2 => (intro w hSw; (try dsimp only at hSw); go_simp; try with_reducible rfl)
                  try simp only [Act.put, List.setIfInBounds_toArray, List.set_cons_zero, List.set_cons_succ]
                  refine take_run (i := 3) (v := ?va3) rfl (by kernel_rfl) (by kernel_rfl) (by kernel_rfl) (fun _ _ _ h => h) (by rfl) ?ya3 (by assumption) ?ra3
                  case ya3 => (intro w hSw; (try dsimp only at hSw); go_simp; try with_reducible rfl)
                  try simp only [Act.put, List.setIfInBounds_toArray, List.set_cons_zero, List.set_cons_succ]
                  refine take_run (i := 4) (v := ?va4) rfl (by kernel_rfl) (by kernel_rfl) (by kernel_rfl) (fun _ _ _ h => h) (by rfl) ?ya4 (by assumption) ?ra4
                  case ya4 => (intro w hSw; (try dsimp only at hSw); go_simp; try with_reducible rfl)
                  try simp only [Act.put, List.setIfInBounds_toArray, List.set_cons_zero, List.set_cons_succ]
                  refine take_run (i := 5) (v := ?va5) rfl (by kernel_rfl) (by kernel_rfl) (by kernel_rfl) (fun _ _ _ h => h) (by rfl) ?ya5 (by assumption) ?ra5
                  case ya5 => (intro w hSw; (try dsimp only at hSw); go_simp; try with_reducible rfl)
                  try simp only [Act.put, List.setIfInBounds_toArray, List.set_cons_zero, List.set_cons_succ]
                  refine take_run (i := 6) (v := ?va6) rfl (by kernel_rfl) (by kernel_rfl) (by kernel_rfl) (fun _ _ _ h => h) (by rfl) ?ya6 (by assumption) ?ra6
                  case ya6 => (intro w hSw; (try dsimp only at hSw); go_simp; try with_reducible rfl)
                  try simp only [Act.put, List.setIfInBounds_toArray, List.set_cons_zero, List.set_cons_succ]
                  refine take_run (i := 7) (v := ?va7) rfl (by kernel_rfl) (by kernel_rfl) (by kernel_rfl) (fun _ _ _ h => h) (by rfl) ?ya7 (by assumption) ?ra7
                  case ya7 => (intro w hSw; (try dsimp only at hSw); go_simp; try with_reducible rfl)
                  try simp only [Act.put, List.setIfInBounds_toArray, List.set_cons_zero, List.set_cons_succ]
                  refine take_run (i := 8) (v := ?va8) rfl (by kernel_rfl) (by kernel_rfl) (by kernel_rfl) (fun _ _ _ h => h) (by rfl) ?ya8 (by assumption) ?ra8
                  case ya8 => (intro w hSw; (try dsimp only at hSw); go_simp; try with_reducible rfl)
                  try simp only [Act.put, List.setIfInBounds_toArray, List.set_cons_zero, List.set_cons_succ]
                  refine take_run (i := 9) (v := ?va9) rfl (by kernel_rfl) (by kernel_rfl) (by kernel_rfl) (fun _ _ _ h => h) (by rfl) ?ya9 (by assumption) ?ra9
                  case ya9 => (intro w hSw; (try dsimp only at hSw); go_simp; try with_reducible rfl)
                  try simp only [Act.put, List.setIfInBounds_toArray, List.set_cons_zero, List.set_cons_succ]
                  refine take_run (i := 10) (v := ?va10) rfl (by kernel_rfl) (by kernel_rfl) (by kernel_rfl) (fun _ _ _ h => h) (by rfl) ?ya10 (by assumption) ?ra10
                  case ya10 => (intro w hSw; (try dsimp only at hSw); go_simp; try with_reducible rfl)
                  try simp only [Act.put, List.setIfInBounds_toArray, List.set_cons_zero, List.set_cons_succ]
                  refine take_run (i := 11) (v := ?va11) rfl (by kernel_rfl) (by kernel_rfl) (by kernel_rfl) (fun _ _ _ h => h) (by rfl) ?ya11 (by assumption) ?ra11
                  case ya11 => (intro w hSw; (try dsimp only at hSw); go_simp; try with_reducible rfl)
                  try simp only [Act.put, List.setIfInBounds_toArray, List.set_cons_zero, List.set_cons_succ]
                  refine take_call (i := 12) rfl (by kernel_rfl) (by rfl) (fun Kq hK => ?_)
                  go_simp
                  go_at_call 39
                  refine (rempty_any nb n i _ (nullB L) (qr.take i) (some ⟨bx, ox, none⟩) S _ HNs.out.drew HNl.out HTl.out.symm (by rw [HTl.out]; omega) (fun s hs => HRq.out.2.2.2 s (List.mem_of_mem_take hs)) (HEs.out.below (Below.refl _ _).drew)).mono ?_
                  rintro e w5 ⟨rfl, hb5⟩
                  obtain ⟨he, hee⟩ : ∃ he, he = emptyB (nullB L) (qr.take i) := ⟨_, rfl⟩
                  rw [← hee]
                  have HEm : Hid (he = true ↔ Nuls ⟨(m : Int), (n : Int), gs, rs⟩ (qr.take i)) := Lib.hid (by rw [hee]; exact HEqq.out _ (fun s hs => List.mem_of_mem_take hs))
                  have HDw5 : Hid (Below ws.heap.size ws w5) := Lib.hid (bundrew hb5)
                  have HBx5 := Lib.hid (bthen HBxs.out HDw5.out HBxs.out.size)
                  have hz5 : ws.heap.size ≤ w5.heap.size := HDw5.out.size
                  have k0 : w5.cell? ⟨w.heap.size, 0, none⟩ = some (.int .i64 (m : Int)) := (HDw5.out.cell (p := ⟨w.heap.size, 0, none⟩) zgs).trans g0
                  have k1 : w5.cell? ⟨w.heap.size, 1, none⟩ = some (.int .i64 (n : Int)) := (HDw5.out.cell (p := ⟨w.heap.size, 1, none⟩) zgs).trans g1
                  have k2 : w5.cell? ⟨w.heap.size, 2, none⟩ = some (.int .i64 gs) := (HDw5.out.cell (p := ⟨w.heap.size, 2, none⟩) zgs).trans g2
                  have k3 : w5.cell? ⟨w.heap.size, 3, none⟩ = some (.slice (some ⟨bq, oq, none⟩) rs.length c) := (HDw5.out.cell (p := ⟨w.heap.size, 3, none⟩) zgs).trans g3
                  have k4 : w5.cell? ⟨wk.heap.size, 0, none⟩ = some (.int .i64 ql) := (HDw5.out.cell (p := ⟨wk.heap.size, 0, none⟩) zxs).trans x0
                  have k5 : w5.cell? ⟨wk.heap.size, 1, none⟩ = some (.slice (some ⟨bx, ox, none⟩) qr.length cq) := (HDw5.out.cell (p := ⟨wk.heap.size, 1, none⟩) zxs).trans x1
                  have k6 : w5.cell? ⟨wc.heap.size, 0, none⟩ = some (.bool st) := (HDw5.out.cell (p := ⟨wc.heap.size, 0, none⟩) zy).trans y0
                  have k7 : w5.cell? ⟨wc.heap.size, 1, none⟩ = some (.int .i64 sn) := (HDw5.out.cell (p := ⟨wc.heap.size, 1, none⟩) zy).trans y1
                  have zg5 : w.heap.size < w5.heap.size := by omega
                  have zx5 : wk.heap.size < w5.heap.size := by omega
                  have zy5 : wc.heap.size < w5.heap.size := by omega
                  clear hb5 hee
                  refine hK.out _ _ ?ha12 (fun hHeld => ?ra12)
                  case ha12 => ((try dsimp only); go_keep)
                  clear hK Kq
                  try simp only [Act.put, List.setIfInBounds_toArray, List.set_cons_zero, List.set_cons_succ]
                  refine take_run (i := 13) (v := ?va13) rfl (by kernel_rfl) (by kernel_rfl) (by kernel_rfl) (fun _ _ _ h => h) (by rfl) ?ya13 (by assumption) ?ra13
                  case ya13 => (intro w hSw; (try dsimp only at hSw); go_simp; try with_reducible rfl)
                  try simp only [Act.put, List.setIfInBounds_toArray, List.set_cons_zero, List.set_cons_succ]
                  refine take_run (i := 14) (v := ?va14) rfl (by kernel_rfl) (by kernel_rfl) (by kernel_rfl) (fun _ _ _ h => h) (by rfl) ?ya14 (by assumption) ?ra14
                  case ya14 => (intro w hSw; (try dsimp only at hSw); go_simp; try with_reducible rfl)
                  try simp only [Act.put, List.setIfInBounds_toArray, List.set_cons_zero, List.set_cons_succ]
                  cases he
                  · have HFn : Hid (false = true ↔ LefQ ⟨(m : Int), (n : Int), gs, rs⟩ m j kk (i + 1)) := Lib.hid (by
                      rw [HHit.out, ← HIv.out]
                      constructor
                      · exact .inl
                      · rintro (h | ⟨_, h, _⟩)
                        · exact h
                        · exact HEm.out.2 h)
                    refine take_bar (i := 15) rfl (by kernel_rfl) (by kernel_rfl) (by kernel_rfl) (fun _ _ _ h => h) (by rfl) (by assumption) ?_
                    try simp only [Act.put, List.setIfInBounds_toArray, List.set_cons_zero, List.set_cons_succ]
                    refine take_bar (i := 16) rfl (by kernel_rfl) (by kernel_rfl) (by kernel_rfl) (fun _ _ _ h => h) (by rfl) (by assumption) ?_
                    try simp only [Act.put, List.setIfInBounds_toArray, List.set_cons_zero, List.set_cons_succ]
                    refine take_bar (i := 17) rfl (by kernel_rfl) (by kernel_rfl) (by kernel_rfl) (fun _ _ _ h => h) (by rfl) (by assumption) ?_
                    try simp only [Act.put, List.setIfInBounds_toArray, List.set_cons_zero, List.set_cons_succ]
                    refine take_bar (i := 18) rfl (by kernel_rfl) (by kernel_rfl) (by kernel_rfl) (fun _ _ _ h => h) (by rfl) (by assumption) ?_
                    try simp only [Act.put, List.setIfInBounds_toArray, List.set_cons_zero, List.set_cons_succ]
                    refine take_bar (i := 19) rfl (by kernel_rfl) (by kernel_rfl) (by kernel_rfl) (fun _ _ _ h => h) (by rfl) (by assumption) ?_
                    try simp only [Act.put, List.setIfInBounds_toArray, List.set_cons_zero, List.set_cons_succ]
                    refine take_bar (i := 20) rfl (by kernel_rfl) (by kernel_rfl) (by kernel_rfl) (fun _ _ _ h => h) (by rfl) (by assumption) ?_
                    try simp only [Act.put, List.setIfInBounds_toArray, List.set_cons_zero, List.set_cons_succ]
                    refine take_bar (i := 21) rfl (by kernel_rfl) (by kernel_rfl) (by kernel_rfl) (fun _ _ _ h => h) (by rfl) (by assumption) ?_
                    try simp only [Act.put, List.setIfInBounds_toArray, List.set_cons_zero, List.set_cons_succ]
                    refine take_bar (i := 22) rfl (by kernel_rfl) (by kernel_rfl) (by kernel_rfl) (fun _ _ _ h => h) (by rfl) (by assumption) ?_
                    try simp only [Act.put, List.setIfInBounds_toArray, List.set_cons_zero, List.set_cons_succ]
                    refine take_bar (i := 23) rfl (by kernel_rfl) (by kernel_rfl) (by kernel_rfl) (fun _ _ _ h => h) (by rfl) (by assumption) ?_
                    try simp only [Act.put, List.setIfInBounds_toArray, List.set_cons_zero, List.set_cons_succ]
                    refine take_bar (i := 24) rfl (by kernel_rfl) (by kernel_rfl) (by kernel_rfl) (fun _ _ _ h => h) (by rfl) (by assumption) ?_
                    try simp only [Act.put, List.setIfInBounds_toArray, List.set_cons_zero, List.set_cons_succ]
                    refine take_bar (i := 25) rfl (by kernel_rfl) (by kernel_rfl) (by kernel_rfl) (fun _ _ _ h => h) (by rfl) (by assumption) ?_
                    try simp only [Act.put, List.setIfInBounds_toArray, List.set_cons_zero, List.set_cons_succ]
                    refine take_bar (i := 26) rfl (by kernel_rfl) (by kernel_rfl) (by kernel_rfl) (fun _ _ _ h => h) (by rfl) (by assumption) ?_
                    try simp only [Act.put, List.setIfInBounds_toArray, List.set_cons_zero, List.set_cons_succ]
                    refine take_run (i := 27) (v := ?vb27) rfl (by kernel_rfl) (by kernel_rfl) (by kernel_rfl) (fun _ _ _ h => h) (by rfl) ?yb27 (by assumption) ?rb27
                    case yb27 => (intro w hSw; (try dsimp only at hSw); go_simp; try with_reducible rfl)
                    try simp only [Act.put, List.setIfInBounds_toArray, List.set_cons_zero, List.set_cons_succ]
                    refine take_run (i := 28) (v := ?vb28) rfl (by kernel_rfl) (by kernel_rfl) (by kernel_rfl) (fun _ _ _ h => h) (by rfl) ?yb28 (by assumption) ?rb28
                    case yb28 => (intro w hSw; (try dsimp only at hSw); go_simp; try with_reducible rfl)
                    try simp only [Act.put, List.setIfInBounds_toArray, List.set_cons_zero, List.set_cons_succ]
                    refine take_run (i := 29) (v := ?vb29) rfl (by kernel_rfl) (by kernel_rfl) (by kernel_rfl) (fun _ _ _ h => h) (by rfl) ?yb29 (by assumption) ?rb29
                    case yb29 => (intro w hSw; (try dsimp only at hSw); go_simp; try with_reducible rfl)
                    try simp only [Act.put, List.setIfInBounds_toArray, List.set_cons_zero, List.set_cons_succ]
                    refine wpAnyH_done (by kernel_rfl) ?_ _
                    refine NoPanic.normal ?_
                    go_wp2
                    go_roundw
                    case rel => exact ⟨i + 1, false, hil, by go_num, rfl, HFn.out, HBx5.out⟩
                    case measure => simp [intOf]; omega
                  · obtain ⟨mj, hmj⟩ : ∃ mj : Nat, mj = m + j := ⟨_, rfl⟩
                    have HMj := Lib.hid hmj
                    have hadd : IntKind.i64.wrap ((m : Int) + (j : Int)) = (mj : Int) := by rw [IntWalk.i64_in _ (by omega)]; omega
                    have hmj9 : (mj : Int) < (m : Int) + (n : Int) := by omega
                    have hmj0 : (0 : Int) ≤ (mj : Int) := by omega
                    clear hmj
                    have hnd9 : (nd : Int) < (m : Int) + (n : Int) := by omega
                    have hnd0 : (0 : Int) ≤ (nd : Int) := by omega
                    have HFn : Hid (z = true ↔ LefQ ⟨(m : Int), (n : Int), gs, rs⟩ m j kk (i + 1)) := Lib.hid (by
                      rw [HHit.out, ← HIv.out, HZ.out]
                      constructor
                      · exact fun h => .inr ⟨HQl.out, HEm.out.1 rfl, h⟩
                      · rintro (h | ⟨_, _, h⟩)
                        · cases h
                        · exact h)
                    refine take_run (i := 15) (v := ?vd15) rfl (by kernel_rfl) (by kernel_rfl) (by kernel_rfl) (fun _ _ _ h => h) (by rfl) ?yd15 (by assumption) ?rd15
                    case yd15 => (intro w hSw; (try dsimp only at hSw); go_simp; try with_reducible rfl)
                    try simp only [Act.put, List.setIfInBounds_toArray, List.set_cons_zero, List.set_cons_succ]
                    refine take_run (i := 16) (v := ?vd16) rfl (by kernel_rfl) (by kernel_rfl) (by kernel_rfl) (fun _ _ _ h => h) (by rfl) ?yd16 (by assumption) ?rd16
                    case yd16 => (intro w hSw; (try dsimp only at hSw); go_simp; try with_reducible rfl)
                    try simp only [Act.put, List.setIfInBounds_toArray, List.set_cons_zero, List.set_cons_succ]
                    refine take_run (i := 17) (v := ?vd17) rfl (by kernel_rfl) (by kernel_rfl) (by kernel_rfl) (fun _ _ _ h => h) (by rfl) ?yd17 (by assumption) ?rd17
                    case yd17 => (intro w hSw; (try dsimp only at hSw); go_simp; try with_reducible rfl)
                    try simp only [Act.put, List.setIfInBounds_toArray, List.set_cons_zero, List.set_cons_succ]
                    refine take_run (i := 21) (v := ?vd21) rfl (by kernel_rfl) (by kernel_rfl) (by kernel_rfl) (fun _ _ _ h => h) (by rfl) ?yd21 (by assumption) ?rd21
                    case yd21 => (intro w hSw; (try dsimp only at hSw); go_simp; try with_reducible rfl)
                    try simp only [Act.put, List.setIfInBounds_toArray, List.set_cons_zero, List.set_cons_succ]
                    refine take_run (i := 22) (v := ?vd22) rfl (by kernel_rfl) (by kernel_rfl) (by kernel_rfl) (fun _ _ _ h => h) (by rfl) ?yd22 (by assumption) ?rd22
                    case yd22 => (intro w hSw; (try dsimp only at hSw); go_simp; try with_reducible rfl)
                    try simp only [Act.put, List.setIfInBounds_toArray, List.set_cons_zero, List.set_cons_succ]
                    refine take_run (i := 23) (v := ?vd23) rfl (by kernel_rfl) (by kernel_rfl) (by kernel_rfl) (fun _ _ _ h => h) (by rfl) ?yd23 (by assumption) ?rd23
                    case yd23 => (intro w hSw; (try dsimp only at hSw); go_simp; try with_reducible rfl)
                    try simp only [Act.put, List.setIfInBounds_toArray, List.set_cons_zero, List.set_cons_succ]
                    refine take_run (i := 24) (v := ?vd24) rfl (by kernel_rfl) (by kernel_rfl) (by kernel_rfl) (fun _ _ _ h => h) (by rfl) ?yd24 (by assumption) ?rd24
                    case yd24 => (intro w hSw; (try dsimp only at hSw); go_simp; try with_reducible rfl)
                    try simp only [Act.put, List.setIfInBounds_toArray, List.set_cons_zero, List.set_cons_succ]
                    refine take_call (i := 18) rfl (by kernel_rfl) (by rfl) (fun Kq hK => ?_)
                    go_simp
                    go_at_call 40
                    refine (rnode_any (m : Int) (n : Int) gs _ ⟨st, sn⟩ _ ⟨_, _, _, rfl⟩ (by omega) (by show 0 ≤ sn ∧ sn ≤ 1000; omega)).mono ?_
                    rintro e w6 ⟨rfl, hb6⟩
                    rw [HNd.out.2]
                    have HDw6 : Hid (Below ws.heap.size ws w6) := Lib.hid (bthen HDw5.out hb6 HDw5.out.size)
                    have HBx6 := Lib.hid (bthen HBxs.out HDw6.out HBxs.out.size)
                    have hz6 : ws.heap.size ≤ w6.heap.size := HDw6.out.size
                    have n0 : w6.cell? ⟨w.heap.size, 0, none⟩ = some (.int .i64 (m : Int)) := (HDw6.out.cell (p := ⟨w.heap.size, 0, none⟩) zgs).trans g0
                    have n1 : w6.cell? ⟨w.heap.size, 1, none⟩ = some (.int .i64 (n : Int)) := (HDw6.out.cell (p := ⟨w.heap.size, 1, none⟩) zgs).trans g1
                    have n2 : w6.cell? ⟨w.heap.size, 2, none⟩ = some (.int .i64 gs) := (HDw6.out.cell (p := ⟨w.heap.size, 2, none⟩) zgs).trans g2
                    have n3 : w6.cell? ⟨w.heap.size, 3, none⟩ = some (.slice (some ⟨bq, oq, none⟩) rs.length c) := (HDw6.out.cell (p := ⟨w.heap.size, 3, none⟩) zgs).trans g3
                    have n4 : w6.cell? ⟨wk.heap.size, 0, none⟩ = some (.int .i64 ql) := (HDw6.out.cell (p := ⟨wk.heap.size, 0, none⟩) zxs).trans x0
                    have n5 : w6.cell? ⟨wk.heap.size, 1, none⟩ = some (.slice (some ⟨bx, ox, none⟩) qr.length cq) := (HDw6.out.cell (p := ⟨wk.heap.size, 1, none⟩) zxs).trans x1
                    have n6 : w6.cell? ⟨wc.heap.size, 0, none⟩ = some (.bool st) := (HDw6.out.cell (p := ⟨wc.heap.size, 0, none⟩) zy).trans y0
                    have n7 : w6.cell? ⟨wc.heap.size, 1, none⟩ = some (.int .i64 sn) := (HDw6.out.cell (p := ⟨wc.heap.size, 1, none⟩) zy).trans y1
                    have zg6 : w.heap.size < w6.heap.size := by omega
                    have zx6 : wk.heap.size < w6.heap.size := by omega
                    have zy6 : wc.heap.size < w6.heap.size := by omega
                    have HR6 := HRs.out.below HDw6.out
                    have r0 : w6.cell? ⟨bf, nd, none⟩ = some (.slice (some ⟨br, 0, none⟩) (m + n) (m + n)) := HR6.outer nd br HRow.out.2.1
                    have r1 : w6.cell? ⟨br, mj, none⟩ = some (.bool z) := by
                      rw [HMj.out]
                      exact ((HR6.rows nd br row HRow.out.2.1 HRow.out.1).1.cell _).trans (bcells_get HRow.out.2.2)
                    have zr0 : bf < w6.heap.size := HR6.bflt
                    have zr1 : br < w6.heap.size := (HR6.rows nd br row HRow.out.2.1 HRow.out.1).1.lt
                    clear hb6 HR6
                    refine hK.out _ _ ?hd18 (fun hHeld => ?rd18)
                    case hd18 => ((try dsimp only); go_keep)
                    clear hK Kq
                    try simp only [Act.put, List.setIfInBounds_toArray, List.set_cons_zero, List.set_cons_succ]
                    refine take_run (i := 19) (v := ?vd19) rfl (by kernel_rfl) (by kernel_rfl) (by kernel_rfl) (fun _ _ _ h => h) (by rfl) ?yd19 (by assumption) ?rd19
                    case yd19 => (intro w hSw; (try dsimp only at hSw); go_simp; try with_reducible rfl)
                    try simp only [Act.put, List.setIfInBounds_toArray, List.set_cons_zero, List.set_cons_succ]
                    refine take_call (i := 20) rfl (by kernel_rfl) (by rfl) (fun Kq hK => ?_)
                    go_simp
                    refine hK.out _ _ ?hd20 (fun hHeld => ?rd20)
                    case hd20 => ((try dsimp only); go_keep)
                    clear hK Kq
                    try simp only [Act.put, List.setIfInBounds_toArray, List.set_cons_zero, List.set_cons_succ]
                    refine take_run (i := 25) (v := ?vd25) rfl (by kernel_rfl) (by kernel_rfl) (by kernel_rfl) (fun _ _ _ h => h) (by rfl) ?yd25 (by assumption) ?rd25
                    case yd25 => (intro w hSw; (try dsimp only at hSw); go_simp; try with_reducible rfl)
                    try simp only [Act.put, List.setIfInBounds_toArray, List.set_cons_zero, List.set_cons_succ]
                    refine take_call (i := 26) rfl (by kernel_rfl) (by rfl) (fun Kq hK => ?_)
                    go_simp
                    refine hK.out _ _ ?hd26 (fun hHeld => ?rd26)
                    case hd26 => ((try dsimp only); go_keep)
                    clear hK Kq
                    try simp only [Act.put, List.setIfInBounds_toArray, List.set_cons_zero, List.set_cons_succ]
                    refine take_run (i := 27) (v := ?vd27) rfl (by kernel_rfl) (by kernel_rfl) (by kernel_rfl) (fun _ _ _ h => h) (by rfl) ?yd27 (by assumption) ?rd27
                    case yd27 => (intro w hSw; (try dsimp only at hSw); go_simp; try with_reducible rfl)
                    try simp only [Act.put, List.setIfInBounds_toArray, List.set_cons_zero, List.set_cons_succ]
                    refine take_run (i := 28) (v := ?vd28) rfl (by kernel_rfl) (by kernel_rfl) (by kernel_rfl) (fun _ _ _ h => h) (by rfl) ?yd28 (by assumption) ?rd28
                    case yd28 => (intro w hSw; (try dsimp only at hSw); go_simp; try with_reducible rfl)
                    try simp only [Act.put, List.setIfInBounds_toArray, List.set_cons_zero, List.set_cons_succ]
                    refine take_run (i := 29) (v := ?vd29) rfl (by kernel_rfl) (by kernel_rfl) (by kernel_rfl) (fun _ _ _ h => h) (by rfl) ?yd29 (by assumption) ?rd29
                    case yd29 => (intro w hSw; (try dsimp only at hSw); go_simp; try with_reducible rfl)
                    try simp only [Act.put, List.setIfInBounds_toArray, List.set_cons_zero, List.set_cons_succ]
                    refine wpAnyH_done (by kernel_rfl) ?_ _
                    refine NoPanic.normal ?_
                    go_wp2
                    go_roundw
                    case rel => exact ⟨i + 1, z, hil, by go_num, rfl, HFn.out, HBx6.out⟩
                    case measure => simp [intOf]; omega
                · have hle : (ql == (j : Int)) = false := by simp [hql]
                  have HFn : Hid (false = true ↔ LefQ ⟨(m : Int), (n : Int), gs, rs⟩ m j kk (i + 1)) := Lib.hid (by
                    rw [HHit.out, ← HIv.out]
                    constructor
                    · exact .inl
                    · rintro (h | ⟨h, _⟩)
                      · exact h
                      · exact absurd h hql)
                  clear hql
                  refine wp_region_noPanic ?_
                  refine wp_region_held_drew (S := (fun w' => w'.cell? ⟨w.heap.size, 0, none⟩ = some (.int .i64 (m : Int)) ∧ w'.cell? ⟨w.heap.size, 1, none⟩ = some (.int .i64 (n : Int)) ∧ w'.cell? ⟨w.heap.size, 2, none⟩ = some (.int .i64 gs) ∧ w'.cell? ⟨w.heap.size, 3, none⟩ = some (.slice (some ⟨bq, oq, none⟩) rs.length c) ∧ w'.cell? ⟨wk.heap.size, 0, none⟩ = some (.int .i64 ql) ∧ w'.cell? ⟨wk.heap.size, 1, none⟩ = some (.slice (some ⟨bx, ox, none⟩) qr.length cq) ∧ w'.cell? ⟨wc.heap.size, 0, none⟩ = some (.bool st) ∧ w'.cell? ⟨wc.heap.size, 1, none⟩ = some (.int .i64 sn))) (by kernel_rfl) ?hn (fun hHeld => ?bn)
                  case hn => ((try dsimp only); go_keep)
                  refine take_run (i := 0) (v := ?vn0) rfl (by kernel_rfl) (by kernel_rfl) (by kernel_rfl) (fun _ _ _ h => h) (by rfl) ?yn0 (by assumption) ?rn0
                  case yn0 => (intro w hSw; (try dsimp only at hSw); go_simp; try with_reducible rfl)
                  try simp only [Act.put, List.setIfInBounds_toArray, List.set_cons_zero, List.set_cons_succ]
                  refine take_run (i := 1) (v := ?vn1) rfl (by kernel_rfl) (by kernel_rfl) (by kernel_rfl) (fun _ _ _ h => h) (by rfl) ?yn1 (by assumption) ?rn1
                  case yn1 => (intro w hSw; (try dsimp only at hSw); go_simp; try with_reducible rfl)
                  try simp only [Act.put, List.setIfInBounds_toArray, List.set_cons_zero, List.set_cons_succ]
                  refine take_run (i := 2) (v := ?vn2) rfl (by kernel_rfl) (by kernel_rfl) (by kernel_rfl) (fun _ _ _ h => h) (by rfl) ?yn2 (by assumption) ?rn2
                  case yn2 => (intro w hSw; (try dsimp only at hSw); go_simp; try with_reducible rfl)
                  try simp only [Act.put, List.setIfInBounds_toArray, List.set_cons_zero, List.set_cons_succ]
                  refine take_run (i := 3) (v := ?vn3) rfl (by kernel_rfl) (by kernel_rfl) (by kernel_rfl) (fun _ _ _ h => h) (by rfl) ?yn3 (by assumption) ?rn3
                  case yn3 => (intro w hSw; (try dsimp only at hSw); go_simp; try with_reducible rfl)
                  try simp only [Act.put, List.setIfInBounds_toArray, List.set_cons_zero, List.set_cons_succ]
                  refine take_run (i := 4) (v := ?vn4) rfl (by kernel_rfl) (by kernel_rfl) (by kernel_rfl) (fun _ _ _ h => h) (by rfl) ?yn4 (by assumption) ?rn4
                  case yn4 => (intro w hSw; (try dsimp only at hSw); go_simp; try with_reducible rfl)
                  try simp only [Act.put, List.setIfInBounds_toArray, List.set_cons_zero, List.set_cons_succ]
                  refine take_run (i := 5) (v := ?vn5) rfl (by kernel_rfl) (by kernel_rfl) (by kernel_rfl) (fun _ _ _ h => h) (by rfl) ?yn5 (by assumption) ?rn5
                  case yn5 => (intro w hSw; (try dsimp only at hSw); go_simp; try with_reducible rfl)
                  try simp only [Act.put, List.setIfInBounds_toArray, List.set_cons_zero, List.set_cons_succ]
                  refine take_run (i := 6) (v := ?vn6) rfl (by kernel_rfl) (by kernel_rfl) (by kernel_rfl) (fun _ _ _ h => h) (by rfl) ?yn6 (by assumption) ?rn6
                  case yn6 => (intro w hSw; (try dsimp only at hSw); go_simp; try with_reducible rfl)
                  try simp only [Act.put, List.setIfInBounds_toArray, List.set_cons_zero, List.set_cons_succ]
                  refine take_bar (i := 7) rfl (by kernel_rfl) (by kernel_rfl) (by kernel_rfl) (fun _ _ _ h => h) (by rfl) (by assumption) ?_
                  try simp only [Act.put, List.setIfInBounds_toArray, List.set_cons_zero, List.set_cons_succ]
                  refine take_bar (i := 8) rfl (by kernel_rfl) (by kernel_rfl) (by kernel_rfl) (fun _ _ _ h => h) (by rfl) (by assumption) ?_
                  try simp only [Act.put, List.setIfInBounds_toArray, List.set_cons_zero, List.set_cons_succ]
                  refine take_bar (i := 9) rfl (by kernel_rfl) (by kernel_rfl) (by kernel_rfl) (fun _ _ _ h => h) (by rfl) (by assumption) ?_
                  try simp only [Act.put, List.setIfInBounds_toArray, List.set_cons_zero, List.set_cons_succ]
                  refine take_bar (i := 10) rfl (by kernel_rfl) (by kernel_rfl) (by kernel_rfl) (fun _ _ _ h => h) (by rfl) (by assumption) ?_
                  try simp only [Act.put, List.setIfInBounds_toArray, List.set_cons_zero, List.set_cons_succ]
                  refine take_bar (i := 11) rfl (by kernel_rfl) (by kernel_rfl) (by kernel_rfl) (fun _ _ _ h => h) (by rfl) (by assumption) ?_
                  try simp only [Act.put, List.setIfInBounds_toArray, List.set_cons_zero, List.set_cons_succ]
                  refine take_bar (i := 12) rfl (by kernel_rfl) (by kernel_rfl) (by kernel_rfl) (fun _ _ _ h => h) (by rfl) (by assumption) ?_
                  try simp only [Act.put, List.setIfInBounds_toArray, List.set_cons_zero, List.set_cons_succ]
                  refine take_run (i := 13) (v := ?vn13) rfl (by kernel_rfl) (by kernel_rfl) (by kernel_rfl) (fun _ _ _ h => h) (by rfl) ?yn13 (by assumption) ?rn13
                  case yn13 => (intro w hSw; (try dsimp only at hSw); go_simp; try with_reducible rfl)
                  try simp only [Act.put, List.setIfInBounds_toArray, List.set_cons_zero, List.set_cons_succ]
                  refine take_run (i := 14) (v := ?vn14) rfl (by kernel_rfl) (by kernel_rfl) (by kernel_rfl) (fun _ _ _ h => h) (by rfl) ?yn14 (by assumption) ?rn14
                  case yn14 => (intro w hSw; (try dsimp only at hSw); go_simp; try with_reducible rfl)
                  try simp only [Act.put, List.setIfInBounds_toArray, List.set_cons_zero, List.set_cons_succ]
                  refine take_bar (i := 15) rfl (by kernel_rfl) (by kernel_rfl) (by kernel_rfl) (fun _ _ _ h => h) (by rfl) (by assumption) ?_
                  try simp only [Act.put, List.setIfInBounds_toArray, List.set_cons_zero, List.set_cons_succ]
                  refine take_bar (i := 16) rfl (by kernel_rfl) (by kernel_rfl) (by kernel_rfl) (fun _ _ _ h => h) (by rfl) (by assumption) ?_
                  try simp only [Act.put, List.setIfInBounds_toArray, List.set_cons_zero, List.set_cons_succ]
                  refine take_bar (i := 17) rfl (by kernel_rfl) (by kernel_rfl) (by kernel_rfl) (fun _ _ _ h => h) (by rfl) (by assumption) ?_
                  try simp only [Act.put, List.setIfInBounds_toArray, List.set_cons_zero, List.set_cons_succ]
                  refine take_bar (i := 18) rfl (by kernel_rfl) (by kernel_rfl) (by kernel_rfl) (fun _ _ _ h => h) (by rfl) (by assumption) ?_
                  try simp only [Act.put, List.setIfInBounds_toArray, List.set_cons_zero, List.set_cons_succ]
                  refine take_bar (i := 19) rfl (by kernel_rfl) (by kernel_rfl) (by kernel_rfl) (fun _ _ _ h => h) (by rfl) (by assumption) ?_
                  try simp only [Act.put, List.setIfInBounds_toArray, List.set_cons_zero, List.set_cons_succ]
                  refine take_bar (i := 20) rfl (by kernel_rfl) (by kernel_rfl) (by kernel_rfl) (fun _ _ _ h => h) (by rfl) (by assumption) ?_
                  try simp only [Act.put, List.setIfInBounds_toArray, List.set_cons_zero, List.set_cons_succ]
                  refine take_bar (i := 21) rfl (by kernel_rfl) (by kernel_rfl) (by kernel_rfl) (fun _ _ _ h => h) (by rfl) (by assumption) ?_
                  try simp only [Act.put, List.setIfInBounds_toArray, List.set_cons_zero, List.set_cons_succ]
                  refine take_bar (i := 22) rfl (by kernel_rfl) (by kernel_rfl) (by kernel_rfl) (fun _ _ _ h => h) (by rfl) (by assumption) ?_
                  try simp only [Act.put, List.setIfInBounds_toArray, List.set_cons_zero, List.set_cons_succ]
                  refine take_bar (i := 23) rfl (by kernel_rfl) (by kernel_rfl) (by kernel_rfl) (fun _ _ _ h => h) (by rfl) (by assumption) ?_
                  try simp only [Act.put, List.setIfInBounds_toArray, List.set_cons_zero, List.set_cons_succ]
                  refine take_bar (i := 24) rfl (by kernel_rfl) (by kernel_rfl) (by kernel_rfl) (fun _ _ _ h => h) (by rfl) (by assumption) ?_
                  try simp only [Act.put, List.setIfInBounds_toArray, List.set_cons_zero, List.set_cons_succ]
                  refine take_bar (i := 25) rfl (by kernel_rfl) (by kernel_rfl) (by kernel_rfl) (fun _ _ _ h => h) (by rfl) (by assumption) ?_
                  try simp only [Act.put, List.setIfInBounds_toArray, List.set_cons_zero, List.set_cons_succ]
                  refine take_bar (i := 26) rfl (by kernel_rfl) (by kernel_rfl) (by kernel_rfl) (fun _ _ _ h => h) (by rfl) (by assumption) ?_
                  try simp only [Act.put, List.setIfInBounds_toArray, List.set_cons_zero, List.set_cons_succ]
                  refine take_run (i := 27) (v := ?vn27) rfl (by kernel_rfl) (by kernel_rfl) (by kernel_rfl) (fun _ _ _ h => h) (by rfl) ?yn27 (by assumption) ?rn27
                  case yn27 => (intro w hSw; (try dsimp only at hSw); go_simp; try with_reducible rfl)
                  try simp only [Act.put, List.setIfInBounds_toArray, List.set_cons_zero, List.set_cons_succ]
                  refine take_run (i := 28) (v := ?vn28) rfl (by kernel_rfl) (by kernel_rfl) (by kernel_rfl) (fun _ _ _ h => h) (by rfl) ?yn28 (by assumption) ?rn28
                  case yn28 => (intro w hSw; (try dsimp only at hSw); go_simp; try with_reducible rfl)
                  try simp only [Act.put, List.setIfInBounds_toArray, List.set_cons_zero, List.set_cons_succ]
                  refine take_run (i := 29) (v := ?vn29) rfl (by kernel_rfl) (by kernel_rfl) (by kernel_rfl) (fun _ _ _ h => h) (by rfl) ?yn29 (by assumption) ?rn29
                  case yn29 => (intro w hSw; (try dsimp only at hSw); go_simp; try with_reducible rfl)
                  try simp only [Act.put, List.setIfInBounds_toArray, List.set_cons_zero, List.set_cons_succ]
                  refine wpAnyH_done (by kernel_rfl) ?_ _
                  refine NoPanic.normal ?_
                  go_wp2
                  go_roundw
                  case rel => exact ⟨i + 1, false, hil, by go_num, rfl, HFn.out, HBxs.out.drew⟩
                  case measure => simp [intOf]; omega
              · have HFn : Hid (true = true ↔ LefQ ⟨(m : Int), (n : Int), gs, rs⟩ m j kk (i + 1)) := Lib.hid (by
                  rw [HHit.out, ← HIv.out]
                  exact ⟨.inl, fun _ => rfl⟩)
                refine wp_region_noPanic ?_
                refine wp_region_held_drew (S := (fun w' => w'.cell? ⟨w.heap.size, 0, none⟩ = some (.int .i64 (m : Int)) ∧ w'.cell? ⟨w.heap.size, 1, none⟩ = some (.int .i64 (n : Int)) ∧ w'.cell? ⟨w.heap.size, 2, none⟩ = some (.int .i64 gs) ∧ w'.cell? ⟨w.heap.size, 3, none⟩ = some (.slice (some ⟨bq, oq, none⟩) rs.length c) ∧ w'.cell? ⟨wk.heap.size, 0, none⟩ = some (.int .i64 ql) ∧ w'.cell? ⟨wk.heap.size, 1, none⟩ = some (.slice (some ⟨bx, ox, none⟩) qr.length cq) ∧ w'.cell? ⟨wc.heap.size, 0, none⟩ = some (.bool st) ∧ w'.cell? ⟨wc.heap.size, 1, none⟩ = some (.int .i64 sn))) (by kernel_rfl) ?hi (fun hHeld => ?bi)
                case hi => ((try dsimp only); go_keep)
                refine take_run (i := 0) (v := ?vi0) rfl (by kernel_rfl) (by kernel_rfl) (by kernel_rfl) (fun _ _ _ h => h) (by rfl) ?yi0 (by assumption) ?ri0
                case yi0 => (intro w hSw; (try dsimp only at hSw); go_simp; try with_reducible rfl)
                try simp only [Act.put, List.setIfInBounds_toArray, List.set_cons_zero, List.set_cons_succ]
                refine take_run (i := 1) (v := ?vi1) rfl (by kernel_rfl) (by kernel_rfl) (by kernel_rfl) (fun _ _ _ h => h) (by rfl) ?yi1 (by assumption) ?ri1
                case yi1 => (intro w hSw; (try dsimp only at hSw); go_simp; try with_reducible rfl)
                try simp only [Act.put, List.setIfInBounds_toArray, List.set_cons_zero, List.set_cons_succ]
                refine take_bar (i := 2) rfl (by kernel_rfl) (by kernel_rfl) (by kernel_rfl) (fun _ _ _ h => h) (by rfl) (by assumption) ?_
                try simp only [Act.put, List.setIfInBounds_toArray, List.set_cons_zero, List.set_cons_succ]
                refine take_bar (i := 3) rfl (by kernel_rfl) (by kernel_rfl) (by kernel_rfl) (fun _ _ _ h => h) (by rfl) (by assumption) ?_
                try simp only [Act.put, List.setIfInBounds_toArray, List.set_cons_zero, List.set_cons_succ]
                refine take_bar (i := 4) rfl (by kernel_rfl) (by kernel_rfl) (by kernel_rfl) (fun _ _ _ h => h) (by rfl) (by assumption) ?_
                try simp only [Act.put, List.setIfInBounds_toArray, List.set_cons_zero, List.set_cons_succ]
                refine take_bar (i := 5) rfl (by kernel_rfl) (by kernel_rfl) (by kernel_rfl) (fun _ _ _ h => h) (by rfl) (by assumption) ?_
                try simp only [Act.put, List.setIfInBounds_toArray, List.set_cons_zero, List.set_cons_succ]
                refine take_bar (i := 6) rfl (by kernel_rfl) (by kernel_rfl) (by kernel_rfl) (fun _ _ _ h => h) (by rfl) (by assumption) ?_
                try simp only [Act.put, List.setIfInBounds_toArray, List.set_cons_zero, List.set_cons_succ]
                refine take_bar (i := 7) rfl (by kernel_rfl) (by kernel_rfl) (by kernel_rfl) (fun _ _ _ h => h) (by rfl) (by assumption) ?_
                try simp only [Act.put, List.setIfInBounds_toArray, List.set_cons_zero, List.set_cons_succ]
                refine take_bar (i := 8) rfl (by kernel_rfl) (by kernel_rfl) (by kernel_rfl) (fun _ _ _ h => h) (by rfl) (by assumption) ?_
                try simp only [Act.put, List.setIfInBounds_toArray, List.set_cons_zero, List.set_cons_succ]
                refine take_bar (i := 9) rfl (by kernel_rfl) (by kernel_rfl) (by kernel_rfl) (fun _ _ _ h => h) (by rfl) (by assumption) ?_
                try simp only [Act.put, List.setIfInBounds_toArray, List.set_cons_zero, List.set_cons_succ]
                refine take_bar (i := 10) rfl (by kernel_rfl) (by kernel_rfl) (by kernel_rfl) (fun _ _ _ h => h) (by rfl) (by assumption) ?_
                try simp only [Act.put, List.setIfInBounds_toArray, List.set_cons_zero, List.set_cons_succ]
                refine take_bar (i := 11) rfl (by kernel_rfl) (by kernel_rfl) (by kernel_rfl) (fun _ _ _ h => h) (by rfl) (by assumption) ?_
                try simp only [Act.put, List.setIfInBounds_toArray, List.set_cons_zero, List.set_cons_succ]
                refine take_bar (i := 12) rfl (by kernel_rfl) (by kernel_rfl) (by kernel_rfl) (fun _ _ _ h => h) (by rfl) (by assumption) ?_
                try simp only [Act.put, List.setIfInBounds_toArray, List.set_cons_zero, List.set_cons_succ]
                refine take_bar (i := 13) rfl (by kernel_rfl) (by kernel_rfl) (by kernel_rfl) (fun _ _ _ h => h) (by rfl) (by assumption) ?_
                try simp only [Act.put, List.setIfInBounds_toArray, List.set_cons_zero, List.set_cons_succ]
                refine take_bar (i := 14) rfl (by kernel_rfl) (by kernel_rfl) (by kernel_rfl) (fun _ _ _ h => h) (by rfl) (by assumption) ?_
                try simp only [Act.put, List.setIfInBounds_toArray, List.set_cons_zero, List.set_cons_succ]
                refine take_bar (i := 15) rfl (by kernel_rfl) (by kernel_rfl) (by kernel_rfl) (fun _ _ _ h => h) (by rfl) (by assumption) ?_
                try simp only [Act.put, List.setIfInBounds_toArray, List.set_cons_zero, List.set_cons_succ]
                refine take_bar (i := 16) rfl (by kernel_rfl) (by kernel_rfl) (by kernel_rfl) (fun _ _ _ h => h) (by rfl) (by assumption) ?_
                try simp only [Act.put, List.setIfInBounds_toArray, List.set_cons_zero, List.set_cons_succ]
                refine take_bar (i := 17) rfl (by kernel_rfl) (by kernel_rfl) (by kernel_rfl) (fun _ _ _ h => h) (by rfl) (by assumption) ?_
                try simp only [Act.put, List.setIfInBounds_toArray, List.set_cons_zero, List.set_cons_succ]
                refine take_bar (i := 18) rfl (by kernel_rfl) (by kernel_rfl) (by kernel_rfl) (fun _ _ _ h => h) (by rfl) (by assumption) ?_
                try simp only [Act.put, List.setIfInBounds_toArray, List.set_cons_zero, List.set_cons_succ]
                refine take_bar (i := 19) rfl (by kernel_rfl) (by kernel_rfl) (by kernel_rfl) (fun _ _ _ h => h) (by rfl) (by assumption) ?_
                try simp only [Act.put, List.setIfInBounds_toArray, List.set_cons_zero, List.set_cons_succ]
                refine take_bar (i := 20) rfl (by kernel_rfl) (by kernel_rfl) (by kernel_rfl) (fun _ _ _ h => h) (by rfl) (by assumption) ?_
                try simp only [Act.put, List.setIfInBounds_toArray, List.set_cons_zero, List.set_cons_succ]
                refine take_bar (i := 21) rfl (by kernel_rfl) (by kernel_rfl) (by kernel_rfl) (fun _ _ _ h => h) (by rfl) (by assumption) ?_
                try simp only [Act.put, List.setIfInBounds_toArray, List.set_cons_zero, List.set_cons_succ]
                refine take_bar (i := 22) rfl (by kernel_rfl) (by kernel_rfl) (by kernel_rfl) (fun _ _ _ h => h) (by rfl) (by assumption) ?_
                try simp only [Act.put, List.setIfInBounds_toArray, List.set_cons_zero, List.set_cons_succ]
                refine take_bar (i := 23) rfl (by kernel_rfl) (by kernel_rfl) (by kernel_rfl) (fun _ _ _ h => h) (by rfl) (by assumption) ?_
                try simp only [Act.put, List.setIfInBounds_toArray, List.set_cons_zero, List.set_cons_succ]
                refine take_bar (i := 24) rfl (by kernel_rfl) (by kernel_rfl) (by kernel_rfl) (fun _ _ _ h => h) (by rfl) (by assumption) ?_
                try simp only [Act.put, List.setIfInBounds_toArray, List.set_cons_zero, List.set_cons_succ]
                refine take_bar (i := 25) rfl (by kernel_rfl) (by kernel_rfl) (by kernel_rfl) (fun _ _ _ h => h) (by rfl) (by assumption) ?_
                try simp only [Act.put, List.setIfInBounds_toArray, List.set_cons_zero, List.set_cons_succ]
                refine take_bar (i := 26) rfl (by kernel_rfl) (by kernel_rfl) (by kernel_rfl) (fun _ _ _ h => h) (by rfl) (by assumption) ?_
                try simp only [Act.put, List.setIfInBounds_toArray, List.set_cons_zero, List.set_cons_succ]
                refine take_bar (i := 27) rfl (by kernel_rfl) (by kernel_rfl) (by kernel_rfl) (fun _ _ _ h => h) (by rfl) (by assumption) ?_
                try simp only [Act.put, List.setIfInBounds_toArray, List.set_cons_zero, List.set_cons_succ]
                refine take_run (i := 28) (v := ?vi28) rfl (by kernel_rfl) (by kernel_rfl) (by kernel_rfl) (fun _ _ _ h => h) (by rfl) ?yi28 (by assumption) ?ri28
                case yi28 => (intro w hSw; (try dsimp only at hSw); go_simp; try with_reducible rfl)
                try simp only [Act.put, List.setIfInBounds_toArray, List.set_cons_zero, List.set_cons_succ]
                refine take_run (i := 29) (v := ?vi29) rfl (by kernel_rfl) (by kernel_rfl) (by kernel_rfl) (fun _ _ _ h => h) (by rfl) ?yi29 (by assumption) ?ri29
                case yi29 => (intro w hSw; (try dsimp only at hSw); go_simp; try with_reducible rfl)
                try simp only [Act.put, List.setIfInBounds_toArray, List.set_cons_zero, List.set_cons_succ]
                refine wpAnyH_done (by kernel_rfl) ?_ _
                refine NoPanic.normal ?_
                go_wp2
                go_roundw
                case rel => exact ⟨i + 1, true, hil, by go_num, rfl, HFn.out, HBxs.out.drew⟩
                case measure => simp [intOf]; omega
            · have hie : i = qr.length := by omega
              have HFn : Hid (iv = true ↔ LefQ ⟨(m : Int), (n : Int), gs, rs⟩ m j (kk + 1) 0) := Lib.hid (by
                rw [LefQ.rule HQ2.out.1]
                have h := HIv.out
                rw [hie] at h
                exact h)
              clear hie
              go_wp2
              go_roundw
              case rel => exact ⟨kk + 1, iv, hkl, by go_num, rfl, HFn.out, HBoc.out⟩
              case measure => simp [intOf]; omega
        · have hke : kk = rs.length := by omega
          have HQb : Hid (bb = true ↔ LefQ ⟨(m : Int), (n : Int), gs, rs⟩ m j rs.length 0) := Lib.hid (by have h := HBB.out; rw [hke] at h; exact h)
          have HOk := Lib.hid (HOw.out.below HBk.out (Nat.le_refl _))
          have hki : I64 (j : Int) := by unfold I64; omega
          have HKi := Lib.hid hki
          have hcap1 : (l.length + 1) * 8 ≤ 140737488355328 := by omega
          have hcap2 : l.length + 1 ≤ 9223372036854775807 := by omega
          have hzb : w2.heap.size ≤ wk.heap.size := by omega
          clear hke hki
          cases bb
          · have HFn : Hid (FiltIs (fun j => LefQ ⟨(m : Int), (n : Int), gs, rs⟩ m j rs.length 0) (j + 1) l) := Lib.hid ⟨l, HFl.out, .inr ⟨(fun h => by have h9 := HQb.out.2 h; cases h9), rfl⟩⟩
            go_wp2
            go_roundw
            case rel => exact ⟨j + 1, l, hjn, by go_num, HFn.out, HOk.out, HB2k.out⟩
            case measure => simp [intOf]; omega
          · have HFn : Hid (FiltIs (fun j => LefQ ⟨(m : Int), (n : Int), gs, rs⟩ m j rs.length 0) (j + 1) (l ++ [(j : Int)])) := Lib.hid ⟨l, HFl.out, .inl ⟨HQb.out.1 rfl, rfl⟩⟩
            go_wp2_with (at_builtin; refine wpList_own1 _ rfl _ _ elemInt rfl rfl (HOk.out.alloc _) (j : Int) [.int .i64 (j : Int)] rfl (At.new _ _ _) ⟨rfl, HKi.out⟩ hcap1 hcap2 (Nat.le_trans hzb ((Below.refl _ _).alloc (Nat.le_refl _) _).size) ?_; intro v' w4 hown3 hg3 hat3; have H3 := Lib.hid (And.intro hown3 hg3); clear hown3 hg3 hat3)
            go_roundw
            case rel => exact ⟨j + 1, l ++ [(j : Int)], hjn, by go_num, HFn.out, H3.out.1, bgrown (HB2k.out.alloc HB2k.out.size _) H3.out.2 (HOk.out.alloc _) (Nat.le_refl _) (Nat.le_trans hzb ((Below.refl _ _).alloc (Nat.le_refl _) _).size)⟩
            case measure => simp [intOf]; omega
    · have hje : j = n := by omega
      have HFin : Hid (FiltIs (fun j => Plus (LedE ⟨(m : Int), (n : Int), gs, rs⟩) j j) n l) := Lib.hid (by
        have h := HFl.out
        rw [hje] at h
        exact h.mono n l (fun j _ => HLef.out j))
      go_wp2
      go_ret
      exact ⟨_, l, rfl, HFin.out, HOw.out.base HB2.out.size, bthen HB2.out HBo.out HB2.out.size⟩
end Go.Proofs.YtagcnhiinmiklaaDoor
