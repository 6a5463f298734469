/- Contract: parlref2.LoopsOf. -/
import Derived.Test.YtabehgggahnopaaDoorQRComes
namespace Go.Proofs.YtabehgggahnopaaDoor
open Go.RowKit
set_option linter.unusedVariables false

def LoopK (g : Gram) (k t : Nat) : Prop := ∃ k', k' < k ∧ 0 < k' ∧ Stp (PassE g) k' t t
def LlO (g : Gram) (n O : Nat) (w2 : World) (i : Value) (wr : World) : Prop :=
  ∃ (k : Nat) (row : List Bool), k ≤ n + 1 ∧ i = .int .i64 k ∧ row.length = n ∧ Blk' wr O 4 (bcells row) ∧ (∀ t, t < n → (row[t]? = some true ↔ LoopK g k t)) ∧ Kept (fun b => b = O) w2 wr
def LlI (g : Gram) (n k O : Nat) (w2 : World) (i : Value) (wr : World) : Prop :=
  ∃ (u : Nat) (row : List Bool), u ≤ n ∧ i = .int .i64 u ∧ row.length = n ∧ Blk' wr O 4 (bcells row) ∧ (∀ t, t < n → (row[t]? = some true ↔ LoopK g k t ∨ (t < u ∧ 0 < k ∧ Stp (PassE g) k t t))) ∧ Kept (fun b => b = O) w2 wr
theorem LoopK.next {g : Gram} {n k t : Nat} (ht : t < n) : LoopK g (k + 1) t ↔ LoopK g k t ∨ (t < n ∧ 0 < k ∧ Stp (PassE g) k t t) := by
  constructor
  · rintro ⟨k', h1, h2, h3⟩
    by_cases e : k' = k
    · subst e; exact .inr ⟨ht, h2, h3⟩
    · exact .inl ⟨k', by omega, h2, h3⟩
  · rintro (⟨k', h1, h2, h3⟩ | ⟨_, h2, h3⟩)
    · exact ⟨k', by omega, h2, h3⟩
    · exact ⟨k, Nat.lt_succ_self k, h2, h3⟩

set_option maxRecDepth 100000 in
set_option maxHeartbeats 16000000 in
theorem rloops_any (g : Gram) (m n : Nat) (A : Option Addr) (c : Nat) (S : Nat → Prop) (w : World) (L : List Int) (hgt : g.terms = (m : Int)) (hgn : g.nons = (n : Int)) (hck : checkI g = 0) (hlc : g.rules.length ≤ c) (hc : c ≤ 9223372036854775807) (hA : Els w S g.rules A) (hS : ∀ b, S b → b < w.heap.size) (hL : LFix g n L) :
    Calls Tryd.prog 35 #[.agg #[.int .i64 g.terms, .int .i64 g.nons, .int .i64 g.start, .slice A g.rules.length c]] w fun e w' => ∃ O row, e = .returned (.slice (some ⟨O, 0, none⟩) n n) ∧ row.length = n ∧ Blk' w' O 4 (bcells row) ∧ (∀ t, t < n → (row[t]? = some true ↔ LoopK g (n + 1) t)) ∧ w.heap.size ≤ O ∧ Below w.heap.size w w' := by
  have hv := validG_of hck
  have hn : 1 ≤ n ∧ n ≤ 10 := by have := hv.n1; have := hv.n10; omega
  have hmk2 := mkBools n (by omega)
  have HC := Lib.hid hck
  have HA := Lib.hid hA
  have HS := Lib.hid hS
  have HL := Lib.hid hL
  obtain ⟨gt, gn, gs, rs⟩ := g
  dsimp only at *
  subst hgt; subst hgn
  have hn10 : (n : Int) ≤ 10 := by omega
  have hn1 := hn.1
  have hnb := hn.2
  obtain ⟨w0, hw0⟩ : ∃ w0 : World, w0 = (w.alloc (.cells #[.int .i64 (m : Int), .int .i64 (n : Int), .int .i64 gs, .slice A rs.length c] 25)).alloc (.cells (bcells (List.replicate n false)) 4) := ⟨_, rfl⟩
  have hba : Below w.heap.size w w0 := by rw [hw0]; exact ((Below.refl _ _).alloc (Nat.le_refl _) _).alloc (by simp) _
  have HBa := Lib.hid hba
  have HGa : Hid (Blk' w0 w.heap.size 25 #[.int .i64 (m : Int), .int .i64 (n : Int), .int .i64 gs, .slice A rs.length c]) := Lib.hid (by rw [hw0]; exact (Blk'.new w _ _).alloc _)
  have HOa : Hid (Blk' w0 (w.heap.size + 1) 4 (bcells (List.replicate n false))) := Lib.hid (by rw [hw0]; exact Blk'.new' _ _ _ (by simp))
  have HW0 := Lib.hid hw0
  clear hw0 hba hA hS hL hv hck hn
  go_enter Tryd.func35, Tryd.ntmps35
  go_upto_region 2 with (fail)
  rw [← HW0.out]
  have g0 : w0.cell? ⟨w.heap.size, 0, none⟩ = some (.int .i64 (m : Int)) := HGa.out.cell 0
  have g1 : w0.cell? ⟨w.heap.size, 1, none⟩ = some (.int .i64 (n : Int)) := HGa.out.cell 1
  have g2 : w0.cell? ⟨w.heap.size, 2, none⟩ = some (.int .i64 gs) := HGa.out.cell 2
  have g3 : w0.cell? ⟨w.heap.size, 3, none⟩ = some (.slice A rs.length c) := HGa.out.cell 3
  have zg : w.heap.size < w0.heap.size := HGa.out.lt
  go_wp2_with fail
  refine (comes_any ⟨(m : Int), (n : Int), gs, rs⟩ m n A c S w0 L rfl rfl HC.out hlc hc (HA.out.below HBa.out) (fun b hb => by have := HS.out b hb; omega) HL.out).mono ?_
  rintro e w1 ⟨v, T, rfl, hTl, hT, hown, hb1⟩
  obtain ⟨AT, cT, rfl, hcT1, hcT2, _⟩ := hown.form
  have HT := Lib.hid hT
  have HTl := Lib.hid hTl
  have HE := Lib.hid hown.vl.els.2.2.2
  have HB1 := Lib.hid (bthen HBa.out hb1 HBa.out.size)
  have HO1 := Lib.hid (HOa.out.below hb1 HOa.out.lt)
  have hz01 : w0.heap.size ≤ w1.heap.size := hb1.size
  have hzO : w.heap.size + 1 < w0.heap.size := HOa.out.lt
  have hT9 : (T.length : Int) = (n : Int) + 1 := by omega
  have hTn : T.length ≤ 11 := by omega
  clear g0 g1 g2 g3 zg hT hown hb1 hTl hT9
  go_wp2_with fail
  go_loopw [13] (fun i wr => LlO ⟨(m : Int), (n : Int), gs, rs⟩ n (w.heap.size + 1) w1 i wr) (fun i _ => T.length - (intOf i).toNat)
  case atStart => exact ⟨0, List.replicate n false, Nat.zero_le _, rfl, by simp, HO1.out, (fun t ht => ⟨fun h => by simp [List.getElem?_replicate] at h, fun ⟨k', h, _⟩ => by omega⟩), Kept.refl _ _⟩
  case round =>
    obtain ⟨wo, hwo⟩ : ∃ wo : World, wo = wr := ⟨_, rfl⟩
    subst hwo
    obtain ⟨k, row, hk, rfl, hrl, hO, hrow, hkp⟩ := hrel
    have HO := Lib.hid hO
    have HRow := Lib.hid hrow
    have HK := Lib.hid hkp
    have HRl := Lib.hid hrl
    have HTE : Hid (Els wo (fun b => (False ∨ w0.heap.size ≤ b) ∧ b < w1.heap.size) T AT) := Lib.hid (HE.out.kept hkp (fun b hb (e : b = w.heap.size + 1) => by rcases hb.1 with h | h; exact h; omega))
    clear hO hrow hkp
    by_cases hkn : k < T.length
    · obtain ⟨Tk, hTk⟩ := get_some hkn
      obtain ⟨b1, o1, A1, c1, rfl, hS1, hb1, hc1, hc11, hc12, hE1⟩ := HTE.out.rowS hTk
      have hTr := HT.out k Tk hTk
      have HTr := Lib.hid hTr
      have hTkl : Tk.length = n := hTr.1
      rw [hTkl] at hc1
      have hE1w : Els w1 (fun b => (False ∨ w0.heap.size ≤ b) ∧ b < w1.heap.size) Tk A1 := hE1.keep (fun p hp hlt => (HK.out.cell (p := p) hp.2 (by show ¬ p.block = w.heap.size + 1; rcases hp.1 with h | h; exact h.elim; omega)).symm) (fun _ h => h)
      have HE1 := Lib.hid hE1w
      have hk0 : (0 : Int) ≤ (k : Int) := by omega
      have hk9 : (k : Int) < (T.length : Int) := by omega
      clear hTk hE1 hTr hE1w
      go_wp2_with fail
      clear hc1
      go_loopw [20] (fun i wr => LlI ⟨(m : Int), (n : Int), gs, rs⟩ n k (w.heap.size + 1) w1 i wr) (fun i _ => n - (intOf i).toNat)
      case atStart => exact ⟨0, row, Nat.zero_le _, rfl, HRl.out, HO.out, (fun t ht => (HRow.out t ht).trans ⟨.inl, fun h => by rcases h with h | ⟨h, _⟩; exact h; omega⟩), HK.out⟩
      case round =>
        obtain ⟨wu, hwu⟩ : ∃ wu : World, wu = wr := ⟨_, rfl⟩
        subst hwu
        obtain ⟨u, row2, hu, rfl, hrl2, hO, hrow, hkp⟩ := hrel
        have HOu := Lib.hid hO
        have HRu := Lib.hid hrow
        have HKu := Lib.hid hkp
        have HRlu := Lib.hid hrl2
        by_cases hun : u < n
        · have hu0 : (0 : Int) ≤ (u : Int) := by omega
          have hu9 : (u : Int) < (n : Int) := by omega
          obtain ⟨xv, hxv⟩ := get_some (show u < row2.length by omega)
          have cx : wu.cell? ⟨w.heap.size + 1, u, none⟩ = some (.bool xv) := (hO.cell _).trans (bcells_get hxv)
          have fx := hO.frozen u
          have zx : w.heap.size + 1 < wu.heap.size := hO.lt
          obtain ⟨rk, hrk⟩ := get_some (show u < Tk.length by omega)
          have hrk2 := HTr.out.2 u rk hrk
          obtain ⟨z, hz⟩ := get_some (show u < rk.length by omega)
          have hzs := hrk2.2 u hun
          rw [hz] at hzs
          have hEu := HE1.out.kept hkp (fun b hb (e : b = w.heap.size + 1) => by rcases hb.1 with h | h; exact h; omega)
          obtain ⟨b2, o2, A2, c2, rfl, hS2, hb2, hc2, hc21, hc22, hE2⟩ := hEu.rowS hrk
          obtain ⟨b3, o3, rfl, hS3, hb3, hc3⟩ := hE2.bool hz
          rw [hrk2.1] at hc2
          obtain ⟨y, hy⟩ : ∃ y, y = (xv || (decide (0 < k) && z)) := ⟨_, rfl⟩
          have HRn : Hid (∀ t, t < n → ((row2.set u y)[t]? = some true ↔ LoopK ⟨(m : Int), (n : Int), gs, rs⟩ k t ∨ (t < u + 1 ∧ 0 < k ∧ Stp (PassE ⟨(m : Int), (n : Int), gs, rs⟩) k t t))) := Lib.hid (row_set hrl2 hun hrow (fun t ht => by
            constructor
            · rintro (h | ⟨h1, h2, h3⟩)
              · exact .inl h
              · exact .inr ⟨by omega, h2, h3⟩
            · rintro (h | ⟨h1, h2, h3⟩)
              · exact .inl h
              · exact .inr ⟨by omega, h2, h3⟩) (by
            have h9 := hrow u hun
            rw [hxv] at h9
            rw [hy, Bool.or_eq_true, Bool.and_eq_true, decide_eq_true_eq]
            constructor
            · rintro (h | ⟨h1, h2⟩)
              · rcases h9.1 (by rw [h]) with h | ⟨h, _⟩
                · exact .inl h
                · omega
              · exact .inr ⟨by omega, h1, hzs.1 (by rw [h2])⟩
            · rintro (h | ⟨h1, h2, h3⟩)
              · have := h9.2 (.inl h); injection this with this; exact .inl this
              · have := hzs.2 h3; injection this with this; exact .inr ⟨h2, this⟩))
          have HOn : Hid (Blk' (wu.setCell ⟨w.heap.size + 1, u, none⟩ (.bool y)) (w.heap.size + 1) 4 (bcells (row2.set u y))) := Lib.hid (by rw [← bcells_set]; exact hO.set_ u _)
          have HKn : Hid (Kept (fun b => b = w.heap.size + 1) w1 (wu.setCell ⟨w.heap.size + 1, u, none⟩ (.bool y))) := Lib.hid (hkp.setCell (p := ⟨w.heap.size + 1, u, none⟩) (.inl rfl) _)
          have HY := Lib.hid hy
          clear hO hrow hkp hxv hrk hrk2 hz hzs hEu hE2 hy
          cases xv
          · by_cases hk00 : k = 0
            · have hki : ¬ (0 : Int) < (k : Int) := by omega
              have hye : y = false := by rw [HY.out]; simp [hk00]
              subst hye
              have HK00 := Lib.hid hk00
              clear hk00
              go_wp2
              go_roundw
              case rel => exact ⟨u + 1, _, hun, by go_num, by rw [List.length_set]; exact HRlu.out, HOn.out, HRn.out, HKn.out⟩
              case measure => simp [intOf]; omega
            · have hki : (0 : Int) < (k : Int) := by omega
              have hye : y = z := by rw [HY.out]; simp; omega
              subst hye
              clear hk00
              go_wp2
              go_roundw
              case rel => exact ⟨u + 1, _, hun, by go_num, by rw [List.length_set]; exact HRlu.out, HOn.out, HRn.out, HKn.out⟩
              case measure => simp [intOf]; omega
          · have hye : y = true := by rw [HY.out]; simp
            subst hye
            go_wp2
            go_roundw
            case rel => exact ⟨u + 1, _, hun, by go_num, by rw [List.length_set]; exact HRlu.out, HOn.out, HRn.out, HKn.out⟩
            case measure => simp [intOf]; omega
        · have huu : u = n := by omega
          have HRn : Hid (∀ t, t < n → (row2[t]? = some true ↔ LoopK ⟨(m : Int), (n : Int), gs, rs⟩ (k + 1) t)) := Lib.hid (fun t ht => (HRu.out t ht).trans (by rw [huu]; exact (LoopK.next ht).symm))
          clear hO hrow hkp
          go_wp2
          go_roundw
          case rel => exact ⟨k + 1, row2, by have := HTl.out; omega, by go_num, HRlu.out, HOu.out, HRn.out, HKu.out⟩
          case measure => simp [intOf]; omega
    · have hkk : k = n + 1 := by have := HTl.out; omega
      have HFin : Hid (∀ t, t < n → (row[t]? = some true ↔ LoopK ⟨(m : Int), (n : Int), gs, rs⟩ (n + 1) t)) := Lib.hid (by rw [← hkk]; exact HRow.out)
      clear hkk
      go_wp2
      go_ret
      exact ⟨w.heap.size + 1, row, rfl, HRl.out, HO.out, HFin.out, by omega, HB1.out.trans (HK.out.to_below (B := w.heap.size) (fun b (h : b = w.heap.size + 1) => by omega) HB1.out.size)⟩
end Go.Proofs.YtabehgggahnopaaDoor
