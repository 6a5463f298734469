/- Contract: parlref2.cycleStep. -/
import Derived.Test.YtagcnhiinmiklaaDoorQRComes
import Derived.Test.YtagcnhiinmiklaaDoorQRecur
namespace Go.Proofs.YtagcnhiinmiklaaDoor
open Go.RowKit
set_option linter.unusedVariables false

theorem FiltIs.mem {P : Nat → Prop} : ∀ (k : Nat) (l : List Int), FiltIs P k l → ∀ c : Int, c ∈ l ↔ ∃ j : Nat, j < k ∧ c = (j : Int) ∧ P j
  | 0, l, h, c => by
    have h1 : l = [] := h
    rw [h1]
    exact ⟨fun h => by simp at h, fun ⟨j, h, _⟩ => by omega⟩
  | k + 1, l, ⟨a, ha, h⟩, c => by
    have e := FiltIs.mem k a ha c
    rcases h with ⟨h1, rfl⟩ | ⟨h1, rfl⟩
    · rw [List.mem_append, e]
      constructor
      · rintro (⟨j, h2, h3⟩ | h2)
        · exact ⟨j, by omega, h3⟩
        · simp at h2; exact ⟨k, Nat.lt_succ_self k, h2, h1⟩
      · rintro ⟨j, h2, h3, h4⟩
        by_cases ej : j = k
        · subst ej; exact .inr (by simp [h3])
        · exact .inl ⟨j, by omega, h3, h4⟩
    · rw [e]
      constructor
      · rintro ⟨j, h2, h3⟩; exact ⟨j, by omega, h3⟩
      · rintro ⟨j, h2, h3, h4⟩
        by_cases ej : j = k
        · subst ej; exact absurd h4 h1
        · exact ⟨j, by omega, h3, h4⟩
theorem tabR_iff {g : Gram} {n : Nat} (hp : PassIn g n) : ∀ (k : Nat) (q : Rule) (t : Nat), q ∈ g.rules → (TabR g k q t ↔ ∃ c : Nat, c < n ∧ PassN g q (c : Int) ∧ Stp (PassE g) k c t)
  | 0, q, t, hq => by
    constructor
    · intro h
      have h1 := hp.tos q hq _ h
      exact ⟨t, by omega, h, rfl⟩
    · rintro ⟨c, _, h1, h2⟩
      have e : c = t := h2
      subst e; exact h1
  | k + 1, q, t, hq => by
    constructor
    · rintro ⟨c, h1, q', hq', h2, h3⟩
      have h4 := hp.tos q hq _ h1
      obtain ⟨d, hd, h5, h6⟩ := (tabR_iff hp k q' t hq').1 h3
      obtain ⟨x, rfl⟩ : ∃ x : Nat, c = (x : Int) := ⟨c.toNat, by omega⟩
      exact ⟨x, by omega, h1, d, ⟨q', hq', h2, h5⟩, h6⟩
    · rintro ⟨c, hc, h1, d, ⟨q', hq', h2, h5⟩, h6⟩
      have h4 := hp.tos q' hq' _ h5
      exact ⟨(c : Int), h1, q', hq', h2, (tabR_iff hp k q' t hq').2 ⟨d, by omega, h5, h6⟩⟩
/-- Where one may be behind a rule, k more rules ahead of t. -/
def AtP (g : Gram) (q : Rule) (k t c : Nat) : Prop := PassN g q (c : Int) ∧ Stp (PassE g) k c t
theorem atP_nil {g : Gram} {n k t : Nat} {q : Rule} {l : List Int} (hp : PassIn g n) (hq : q ∈ g.rules) (h : FiltIs (AtP g q k t) n l) : l = [] ↔ ¬ TabR g k q t := by
  rw [tabR_iff hp k q t hq]
  constructor
  · rintro rfl ⟨c, hc, h1⟩
    have := (h.mem n [] (c : Int)).2 ⟨c, hc, rfl, h1⟩
    simp at this
  · intro hn
    cases l with
    | nil => rfl
    | cons x l =>
      obtain ⟨j, h1, _, h2⟩ := (h.mem n _ x).1 (by simp)
      exact absurd ⟨j, h1, h2⟩ hn
def StepOk (g : Gram) (al : List Int) (k t : Nat) (q : Rule) : Prop := q.left ∈ al ∧ TabR g k q t
def CsO (g : Gram) (al : List Int) (k t : Nat) (w0 : World) (i : Value) (wr : World) : Prop :=
  ∃ j : Nat, j ≤ g.rules.length ∧ i = .int .i64 j ∧ (∀ p q, p < j → g.rules[p]? = some q → ¬ StepOk g al k t q) ∧ Below w0.heap.size w0 wr
def CsI (P : Nat → Prop) (n : Nat) (wx : World) (v i : Value) (wr : World) : Prop :=
  ∃ (cc : Nat) (l : List Int), cc ≤ n ∧ i = .int .i64 cc ∧ FiltIs P cc l ∧ Own wr (fun _ => False) wx.heap.size 3 v l ∧ Below wx.heap.size wx wr
theorem csO_next {g : Gram} {al : List Int} {k t j : Nat} {q : Rule} (h : ∀ p q, p < j → g.rules[p]? = some q → ¬ StepOk g al k t q) (hq : g.rules[j]? = some q) (hn : ¬ StepOk g al k t q) : ∀ p q, p < j + 1 → g.rules[p]? = some q → ¬ StepOk g al k t q := fun p q' hp hp' => by
  by_cases e : p = j
  · subst e; rw [hq] at hp'; injection hp' with hp'; subst hp'; exact hn
  · exact h p q' (by omega) hp'
def RetStep (g : Gram) (n : Nat) (al : List Int) (k t : Nat) (w : World) (e : Ending) (w' : World) : Prop :=
  ∃ (y : Int) (v : Value) (nl : List Int), e = .returned (.tuple #[.int .i64 y, v]) ∧ Own w' (fun _ => False) w.heap.size 3 v nl ∧ Below w.heap.size w w' ∧
    ((∃ (p : Nat) (q : Rule), y = (p : Int) ∧ g.rules[p]? = some q ∧ StepOk g al k t q ∧ FiltIs (AtP g q k t) n nl ∧ ∀ p' q', p' < p → g.rules[p']? = some q' → ¬ StepOk g al k t q') ∨ ∀ q ∈ g.rules, ¬ StepOk g al k t q)

set_option maxRecDepth 100000 in
set_option maxHeartbeats 16000000 in
theorem rstep_any (g : Gram) (m n nb lf t : Nat) (L : List Int) (T : List (List (List Bool))) (al : List Int) (A AT Aa : Option Addr) (c cT ca : Nat) (S ST Sa : Nat → Prop) (w : World) (hgt : g.terms = (m : Int)) (hgn : g.nons = (n : Int)) (hck : checkI g = 0) (hlc : g.rules.length ≤ c) (hc : c ≤ 9223372036854775807) (hA : Els w S g.rules A) (hS : ∀ b, S b → b < w.heap.size) (hL : LFix g n L)
    (hnb : Blk' w nb 4 (bcells (nullB L))) (hTl : T.length = n + 1) (hT : ComT g n T) (hTE : Els w ST T AT) (hST : ∀ b, ST b → b < w.heap.size) (haE : Els w Sa al Aa) (hSa : ∀ b, Sa b → b < w.heap.size) (hal : al.length ≤ 1000) (ht : t < n) (hlf : 1 ≤ lf ∧ lf ≤ n) :
    Calls Tryd.prog 36 #[.agg #[.int .i64 g.terms, .int .i64 g.nons, .int .i64 g.start, .slice A g.rules.length c], .slice (some ⟨nb, 0, none⟩) n n, .slice AT T.length cT, .slice Aa al.length ca, .int .i64 (t : Int), .int .i64 (lf : Int)] w (RetStep g n al (lf - 1) t w) := by
  have hv := validG_of hck
  have hri := hv.rulesIn hgn
  have hpi := passIn_of hv hgn
  obtain ⟨gt, gn, gs, rs⟩ := g
  dsimp only at *
  subst hgt; subst hgn
  have hn : 1 ≤ n ∧ n ≤ 10 := by have := hv.n1; have := hv.n10; dsimp only at *; omega
  have hrl : rs.length ≤ 32 := hv.len
  have hrr4 : ∀ q ∈ rs, q.right.length ≤ 4 := fun q hq => (hv.rules q hq).2.2.1
  have HRR := Lib.hid hrr4
  have HRI := Lib.hid hri
  have HPI := Lib.hid hpi
  have HA := Lib.hid hA
  have HS := Lib.hid hS
  have hnl : (nullB L).length = n := by unfold nullB; rw [List.length_map]; exact hL.shape.len
  have HNl := Lib.hid hnl
  have HEq : Hid (∀ q ∈ rs, ∀ l : List Sym, (∀ s ∈ l, s ∈ q.right) → (emptyB (nullB L) l = true ↔ Nuls ⟨(m : Int), (n : Int), gs, rs⟩ l)) := Lib.hid (fun q hq l hl => by
    rw [emptyB_iff]
    constructor
    · intro h s hs
      have h1 := h s hs
      exact ⟨h1.1, (hL.nullB hri (((hri q hq).2.2.2 s (hl s hs)).2 h1.1)).1 h1.2⟩
    · intro h s hs
      have h1 := h s hs
      exact ⟨h1.1, (hL.nullB hri (((hri q hq).2.2.2 s (hl s hs)).2 h1.1)).2 h1.2⟩)
  have hn10 : (n : Int) ≤ 10 := by omega
  have hn1 := hn.1
  have hnbb := hn.2
  have hlf1 := hlf.1
  have hlf2 := hlf.2
  have ht0 : (0 : Int) ≤ (t : Int) := by omega
  have ht9 : (t : Int) < (n : Int) := by omega
  have hkm1 : IntKind.i64.wrap ((lf : Int) - 1) = ((lf - 1 : Nat) : Int) := by rw [IntWalk.i64_in _ (by omega)]; omega
  have HKm1 := Lib.hid hkm1
  obtain ⟨Tp, hTp⟩ := get_some (show lf - 1 < T.length by omega)
  have HTp := Lib.hid (And.intro hTp (hT (lf - 1) Tp hTp))
  have hkm2 : ((lf - 1 : Nat) : Int) < (T.length : Int) := by omega
  have hkm3 : (0 : Int) ≤ ((lf - 1 : Nat) : Int) := by omega
  have HTE := Lib.hid hTE
  have HST := Lib.hid hST
  have HaE := Lib.hid haE
  have HSa := Lib.hid hSa
  have HNb := Lib.hid hnb
  have hal9 : al.length ≤ 9223372036854775807 := by omega
  obtain ⟨w0, hw0⟩ : ∃ w0 : World, w0 = w.alloc (.cells #[.int .i64 (m : Int), .int .i64 (n : Int), .int .i64 gs, .slice A rs.length c] 24) := ⟨_, rfl⟩
  have hba : Below w.heap.size w w0 := by rw [hw0]; exact (Below.refl _ _).alloc (Nat.le_refl _) _
  have HBa := Lib.hid hba
  have HGa : Hid (Blk' w0 w.heap.size 24 #[.int .i64 (m : Int), .int .i64 (n : Int), .int .i64 gs, .slice A rs.length c]) := Lib.hid (by rw [hw0]; exact Blk'.new w _ _)
  have HW0 := Lib.hid hw0
  have hzw : w.heap.size < w0.heap.size := HGa.out.lt
  have g3 : w0.cell? ⟨w.heap.size, 3, none⟩ = some (.slice A rs.length c) := HGa.out.cell 3
  clear hw0 hba hA hS hri hpi hv hnl hL hrr4 hn hlf hkm1 hTp hT hTE hST haE hSa hnb hTl
  go_enter Tryd.func36, Tryd.ntmps36
  go_upto_region 1 with (fail)
  rw [← HW0.out]
  go_wp2_with fail
  clear g3
  go_loopw [21] (fun i wr => CsO ⟨(m : Int), (n : Int), gs, rs⟩ al (lf - 1) t w0 i wr) (fun i _ => rs.length - (intOf i).toNat)
  case atStart => exact ⟨0, Nat.zero_le _, rfl, (fun p q h => by omega), Below.refl _ _⟩
  case round =>
    obtain ⟨wk, hwk⟩ : ∃ wk : World, wk = wr := ⟨_, rfl⟩
    subst hwk
    obtain ⟨kk, hkk, rfl, hno, hb⟩ := hrel
    dsimp only at hkk
    have HNo := Lib.hid hno
    have HB := Lib.hid (bthen HBa.out hb HBa.out.size)
    have HGk := Lib.hid (HGa.out.below hb HGa.out.lt)
    have HB0 := Lib.hid hb
    have hz0 : w0.heap.size ≤ wk.heap.size := hb.size
    clear hno hb
    by_cases hkl : kk < rs.length
    · obtain ⟨q2, hq2⟩ := get_some hkl
      have hAk : Els wk S rs A := HA.out.belowB HB.out HS.out
      obtain ⟨bq, oq, Aq, cq, rfl, hSbq, hbs, hqi, hrc, hcr, hEr2, hc0, hc1⟩ := hAk.rule hq2
      have HQ2 := Lib.hid (And.intro hq2 (HRR.out q2 (List.mem_of_getElem? hq2)))
      have HRq := Lib.hid (HRI.out q2 (List.mem_of_getElem? hq2))
      have HEqq := Lib.hid (HEq.out q2 (List.mem_of_getElem? hq2))
      have HNil := Lib.hid (fun l h => atP_nil (g := ⟨(m : Int), (n : Int), gs, rs⟩) (k := lf - 1) (t := t) (l := l) HPI.out (List.mem_of_getElem? hq2) h)
      obtain ⟨ql, qr⟩ := q2
      dsimp only at hqi hrc hcr hEr2 hc0 hc1
      have hkk0 : (0 : Int) ≤ (kk : Int) := by omega
      obtain ⟨wx, hwx⟩ : ∃ wx : World, wx = wk.alloc (.cells #[.int .i64 ql, .slice Aq qr.length cq] 49) := ⟨_, rfl⟩
      have HWx := Lib.hid hwx
      have hbx : Below wk.heap.size wk wx := by rw [hwx]; exact (Below.refl _ _).alloc (Nat.le_refl _) _
      have HXb : Hid (Blk' wx wk.heap.size 49 #[.int .i64 ql, .slice Aq qr.length cq]) := Lib.hid (by rw [hwx]; exact Blk'.new _ _ _)
      have HGx := Lib.hid (HGk.out.below hbx HGk.out.lt)
      have HBx := Lib.hid (bthen HB.out hbx HB.out.size)
      have HB0x := Lib.hid (bthen HB0.out hbx HB0.out.size)
      have HEr : Hid (Els wx S qr Aq) := Lib.hid (hEr2.below hbx)
      have zx : wk.heap.size < wx.heap.size := by rw [hwx]; simp
      have x0 : wx.cell? ⟨wk.heap.size, 0, none⟩ = some (.int .i64 ql) := HXb.out.cell 0
      have g1 : wx.cell? ⟨w.heap.size, 1, none⟩ = some (.int .i64 (n : Int)) := HGx.out.cell 1
      have zgx : w.heap.size < wx.heap.size := HGx.out.lt
      clear hq2 hwx hbx hAk hEr2 hqi
      go_upto_region 4 with (fail)
      rw [← HWx.out]
      clear hc0 hc1
      go_wp2_with fail
      refine (containsInt_any Aa al.length ca al ql Sa wx rfl hal9 (HaE.out.belowB HBx.out HSa.out)).mono ?_
      rintro e w5 ⟨rfl, rfl⟩
      by_cases hin : ql ∈ al
      · have hind : decide (ql ∈ al) = true := by simp [hin]
        rw [hind]
        have HIn := Lib.hid hin
        clear hin hind x0
        go_wp2_with fail
        clear g1
        go_loopw [16, 33] (fun v i wr => CsI (AtP ⟨(m : Int), (n : Int), gs, rs⟩ ⟨ql, qr⟩ (lf - 1) t) n wx v i wr) (fun _ i _ => n - (intOf i).toNat)
        case atStart => exact ⟨0, [], Nat.zero_le _, rfl, rfl, Own.nil _ _ _ _, Below.refl _ _⟩
        case round =>
          obtain ⟨wc, hwc⟩ : ∃ wc : World, wc = wr := ⟨_, rfl⟩
          subst hwc
          obtain ⟨cc, nl, hcc, rfl, hfl, hown, hb⟩ := hrel
          obtain ⟨An, cn, rfl, hcn1, hcn2, _⟩ := hown.form
          have HFl := Lib.hid hfl
          have HOw := Lib.hid hown
          have HBc := Lib.hid (bthen HBx.out hb HBx.out.size)
          have HB0c := Lib.hid (bthen HB0x.out hb HB0x.out.size)
          have HBxc := Lib.hid hb
          have hnl9 : nl.length ≤ n := by have := hfl.len; omega
          have HXc := Lib.hid (HXb.out.below hb HXb.out.lt)
          have HGc := Lib.hid (HGx.out.below hb HGx.out.lt)
          have hzc : wx.heap.size ≤ wc.heap.size := hb.size
          clear hfl hown hb
          by_cases hcn : cc < n
          · have hcc0 : (0 : Int) ≤ (cc : Int) := by omega
            have hcc9 : (cc : Int) < (n : Int) := by omega
            have x0 : wc.cell? ⟨wk.heap.size, 0, none⟩ = some (.int .i64 ql) := HXc.out.cell 0
            have x1 : wc.cell? ⟨wk.heap.size, 1, none⟩ = some (.slice Aq qr.length cq) := HXc.out.cell 1
            have zxc : wk.heap.size < wc.heap.size := HXc.out.lt
            have g0 : wc.cell? ⟨w.heap.size, 0, none⟩ = some (.int .i64 (m : Int)) := HGc.out.cell 0
            have g1 : wc.cell? ⟨w.heap.size, 1, none⟩ = some (.int .i64 (n : Int)) := HGc.out.cell 1
            have g2 : wc.cell? ⟨w.heap.size, 2, none⟩ = some (.int .i64 gs) := HGc.out.cell 2
            have g3 : wc.cell? ⟨w.heap.size, 3, none⟩ = some (.slice (some ⟨bq, oq, none⟩) rs.length c) := HGc.out.cell 3
            have zgc : w.heap.size < wc.heap.size := HGc.out.lt
            have HNc := Lib.hid (HNb.out.below HBc.out HNb.out.lt)
            have HEc := Lib.hid (HEr.out.below HBxc.out)
            have hcap1 : (nl.length + 1) * 8 ≤ 140737488355328 := by omega
            have hcap2 : nl.length + 1 ≤ 9223372036854775807 := by omega
            have hki : I64 (cc : Int) := by unfold I64; omega
            have HKi := Lib.hid hki
            clear hki
            go_wp2_with fail
            refine (rpasses_any ⟨(m : Int), (n : Int), gs, rs⟩ _ nb n (nullB L) ⟨ql, qr⟩ Aq cq S (cc : Int) wc ⟨_, _, _, _, _, _, rfl⟩ HNc.out HNl.out (by have := HQ2.out.2; dsimp only at this ⊢; omega) (fun s hs => HRq.out.2.2.2 s hs) hrc hcr HEc.out (fun b h => by have := HS.out b h; omega) HEqq.out).mono ?_
            rintro e w5 ⟨bb, rfl, hbb, hb5⟩
            have HBB := Lib.hid hbb
            have HO5 := Lib.hid (HOw.out.below hb5 (Nat.le_refl _))
            have HBx5 := Lib.hid (bthen HBxc.out hb5 HBxc.out.size)
            have HB5 := Lib.hid (bthen HBc.out hb5 HBc.out.size)
            have hz5 : wc.heap.size ≤ w5.heap.size := hb5.size
            clear hbb hb5 x0 x1 g0 g1 g2 g3
            cases bb
            · have HFn : Hid (FiltIs (AtP ⟨(m : Int), (n : Int), gs, rs⟩ ⟨ql, qr⟩ (lf - 1) t) (cc + 1) nl) := Lib.hid ⟨nl, HFl.out, .inr ⟨(fun h => by have h9 := HBB.out.2 h.1; cases h9), rfl⟩⟩
              go_wp2
              go_roundw
              case rel => exact ⟨cc + 1, nl, hcn, by go_num, HFn.out, HO5.out, HBx5.out⟩
              case measure => simp [intOf]; omega
            · have HPs := Lib.hid (HBB.out.1 rfl)
              obtain ⟨prv, hprv⟩ := get_some (show cc < Tp.length by rw [HTp.out.2.1]; exact hcn)
              have hpv2 := HTp.out.2.2 cc prv hprv
              obtain ⟨z, hz⟩ := get_some (show t < prv.length by omega)
              have hzs := hpv2.2 t ht
              rw [hz] at hzs
              have HZs : Hid (z = true ↔ Stp (PassE ⟨(m : Int), (n : Int), gs, rs⟩) (lf - 1) cc t) := Lib.hid ⟨fun h => hzs.1 (by rw [h]), fun h => by have := hzs.2 h; injection this⟩
              have hTx : Els w5 ST T AT := HTE.out.belowB HB5.out HST.out
              obtain ⟨b1, o1, A1, c1, rfl, hS1, hb1, hc1, hc11, hc12, hE1⟩ := hTx.rowS HTp.out.1
              obtain ⟨b2, o2, A2, c2, rfl, hS2, hb22, hc2, hc21, hc22, hE2⟩ := hE1.rowS hprv
              obtain ⟨b3, o3, rfl, hS3, hb3, hc3⟩ := hE2.bool hz
              have hTpl : Tp.length = n := HTp.out.2.1
              have htpl : (cc : Int) < (Tp.length : Int) := by omega
              have hprl : (t : Int) < (prv.length : Int) := by omega
              have hkm := HKm1.out
              clear hprv hpv2 hz hzs hTx hE1 hE2
              cases z
              · have HFn : Hid (FiltIs (AtP ⟨(m : Int), (n : Int), gs, rs⟩ ⟨ql, qr⟩ (lf - 1) t) (cc + 1) nl) := Lib.hid ⟨nl, HFl.out, .inr ⟨(fun h => by have h9 := HZs.out.2 h.2; cases h9), rfl⟩⟩
                go_wp2
                go_roundw
                case rel => exact ⟨cc + 1, nl, hcn, by go_num, HFn.out, HO5.out, HBx5.out⟩
                case measure => simp [intOf]; omega
              · have HFn : Hid (FiltIs (AtP ⟨(m : Int), (n : Int), gs, rs⟩ ⟨ql, qr⟩ (lf - 1) t) (cc + 1) (nl ++ [(cc : Int)])) := Lib.hid ⟨nl, HFl.out, .inl ⟨⟨HPs.out, HZs.out.1 rfl⟩, rfl⟩⟩
                go_wp2_with (at_builtin; refine wpList_own1 _ rfl _ _ elemInt rfl rfl (HO5.out.alloc _) (cc : Int) [.int .i64 (cc : Int)] rfl (At.new _ _ _) ⟨rfl, HKi.out⟩ hcap1 hcap2 (Nat.le_trans HBx5.out.size ((Below.refl _ _).alloc (Nat.le_refl _) _).size) ?_; intro v' w4 hown3 hg3 hat3; have H3 := Lib.hid (And.intro hown3 hg3); clear hown3 hg3 hat3)
                go_roundw
                case rel => exact ⟨cc + 1, nl ++ [(cc : Int)], hcn, by go_num, HFn.out, H3.out.1, bgrown (HBx5.out.alloc HBx5.out.size _) H3.out.2 (HO5.out.alloc _) (Nat.le_refl _) (Nat.le_trans HBx5.out.size ((Below.refl _ _).alloc (Nat.le_refl _) _).size)⟩
                case measure => simp [intOf]; omega
          · have hce : cc = n := by omega
            have HFn : Hid (FiltIs (AtP ⟨(m : Int), (n : Int), gs, rs⟩ ⟨ql, qr⟩ (lf - 1) t) n nl) := Lib.hid (by have h9 := HFl.out; rw [hce] at h9; exact h9)
            by_cases hnil : nl = []
            · have hl0 : nl.length = 0 := by rw [hnil]; rfl
              have hl1 : ¬ (0 : Int) < (nl.length : Int) := by omega
              have HNk : Hid (¬ StepOk ⟨(m : Int), (n : Int), gs, rs⟩ al (lf - 1) t ⟨ql, qr⟩) := Lib.hid (fun h => (HNil.out nl HFn.out).1 hnil h.2)
              clear hnil hce hl0
              go_wp2
              go_roundw
              case rel =>
                first
                | exact ⟨kk + 1, hkl, by go_num, csO_next HNo.out HQ2.out.1 HNk.out, HB0c.out⟩
                | exact ⟨_, _, _, _, _, _, .int .i64 ((kk : Int) + 1), ⟨kk + 1, hkl, by go_num, csO_next HNo.out HQ2.out.1 HNk.out, HB0c.out⟩, rfl, rfl, rfl, rfl, rfl, rfl, rfl⟩
              case measure => simp [intOf]; omega
            · have hl1 : (0 : Int) < (nl.length : Int) := by have := List.length_pos_iff.2 hnil; omega
              have HTb : Hid (TabR ⟨(m : Int), (n : Int), gs, rs⟩ (lf - 1) ⟨ql, qr⟩ t) := Lib.hid (Classical.byContradiction fun h => hnil ((HNil.out nl HFn.out).2 h))
              clear hnil hce
              go_wp2
              go_ret2
              exact ⟨(kk : Int), _, nl, rfl, HOw.out.base HBx.out.size, HBc.out, .inl ⟨kk, ⟨ql, qr⟩, rfl, HQ2.out.1, ⟨HIn.out, HTb.out⟩, HFn.out, HNo.out⟩⟩
      · have hind : decide (ql ∈ al) = false := by simp [hin]
        rw [hind]
        have HNk : Hid (¬ StepOk ⟨(m : Int), (n : Int), gs, rs⟩ al (lf - 1) t ⟨ql, qr⟩) := Lib.hid (fun h => hin h.1)
        clear hin hind x0
        go_wp2
        go_roundw
        case rel => exact ⟨kk + 1, hkl, by go_num, csO_next HNo.out HQ2.out.1 HNk.out, HB0x.out⟩
        case measure => simp [intOf]; omega
    · have hke : kk = rs.length := by omega
      go_wp2
      go_ret2
      refine ⟨-1, _, [], rfl, Own.nil _ _ _ _, HB.out, .inr fun q hq => ?_⟩
      obtain ⟨p, hp⟩ := List.mem_iff_getElem?.1 hq
      exact HNo.out p q (by rw [hke]; exact (List.getElem?_eq_some_iff.1 hp).1) hp
end Go.Proofs.YtagcnhiinmiklaaDoor
