/- Contracts: closed.check, closed.join, closed.finish. -/
import Derived.Test.YtnlpeiffbnlncaaDoorQp2
import Derived.Test.YtnlpeiffbnlncaaDoorQw1
import Derived.Test.YtnlpeiffbnlncaaDoorQp1
import Derived.Deep.Cut
import Derived.IntWalk
namespace Go.Proofs.YtnlpeiffbnlncaaDoor
open Go.RowKit
set_option linter.unusedVariables false

/-- A struct of four cells is stored over another one. -/
theorem set4 {w : World} {b : Nat} {t : TypeId} {a0 a1 a2 a3 : Value} (h : Blk' w b t #[a0, a1, a2, a3]) (v0 v1 v2 v3 : Value) :
    Blk' ((((w.setCell ⟨b, 0, none⟩ v0).setCell ⟨b, 1, none⟩ v1).setCell ⟨b, 2, none⟩ v2).setCell ⟨b, 3, none⟩ v3) b t #[v0, v1, v2, v3] ∧ Kept (fun x => x = b) w ((((w.setCell ⟨b, 0, none⟩ v0).setCell ⟨b, 1, none⟩ v1).setCell ⟨b, 2, none⟩ v2).setCell ⟨b, 3, none⟩ v3) :=
  ⟨(((h.set_ 0 _).set_ 1 _).set_ 2 _).set_ 3 _, ((((Kept.refl (fun x => x = b) w).setCell (p := ⟨b, 0, none⟩) (.inl rfl) _).setCell (p := ⟨b, 1, none⟩) (.inl rfl) _).setCell (p := ⟨b, 2, none⟩) (.inl rfl) _).setCell (p := ⟨b, 3, none⟩) (.inl rfl) _⟩
def sumN : List Gram → Int
  | [] => 0
  | g :: gs => g.nons + sumN gs
def joinR : Int → List Gram → List Rule
  | _, [] => []
  | k, g :: gs => g.rules.map (shR k) ++ joinR (k + g.nons) gs
theorem sumN_snoc (g : Gram) : ∀ (l : List Gram), sumN (l ++ [g]) = sumN l + g.nons
  | [] => by simp [sumN]
  | x :: l => by simp only [List.cons_append, sumN, sumN_snoc g l]; omega
theorem joinR_snoc (g : Gram) : ∀ (l : List Gram) (k : Int), joinR k (l ++ [g]) = joinR k l ++ g.rules.map (shR (k + sumN l))
  | [], k => by simp [joinR, sumN]
  | x :: l, k => by
    simp only [List.cons_append, joinR, sumN, joinR_snoc g l, List.append_assoc]
    rw [show k + x.nons + sumN l = k + (x.nons + sumN l) from by omega]
theorem sumN_take_le (l : List Gram) (h : ∀ g ∈ l, 0 ≤ g.nons) : ∀ t, 0 ≤ sumN (l.take t) ∧ sumN (l.take t) ≤ sumN l := by
  induction l with
  | nil => intro t; simp [sumN]
  | cons x l ih =>
    intro t
    have hx := h x (by simp)
    have h2 := fun t => ih (fun g hg => h g (by simp [hg])) t
    cases t with
    | zero => have := h2 0; simp [sumN] at *; omega
    | succ t => have := h2 t; simp only [List.take_succ_cons, sumN]; omega
theorem Els.gram {w : World} {S : Nat → Prop} {A : Option Addr} {k : Nat} {xs : List Gram} {x : Gram} (h : Els w S xs A) (hk : xs[k]? = some x) :
    ∃ b o A' c, A = some ⟨b, o, none⟩ ∧ S b ∧ b < w.heap.size ∧ (I64 x.terms ∧ I64 x.nons ∧ I64 x.start) ∧ x.rules.length ≤ c ∧ c ≤ 9223372036854775807 ∧ Els w S x.rules A' ∧
      w.cell? ⟨b, o + k * 4, none⟩ = some (.int .i64 x.terms) ∧ w.cell? ⟨b, o + k * 4 + 1, none⟩ = some (.int .i64 x.nons) ∧ w.cell? ⟨b, o + k * 4 + 2, none⟩ = some (.int .i64 x.start) ∧ w.cell? ⟨b, o + k * 4 + 3, none⟩ = some (.slice A' x.rules.length c) := by
  obtain ⟨b, o, cs, hA, hS, hb, ⟨v, rfl, h1, h2, h3, hv⟩, hc⟩ := h.at_ hk
  obtain ⟨A', c, rfl, h4, h5, h6⟩ := hv.slice
  exact ⟨b, o, A', c, hA, hS, hb, ⟨h1, h2, h3⟩, h4, h5, h6, hc.c0, hc.c1, hc.c2, hc.c3⟩

set_option maxRecDepth 100000 in
set_option maxHeartbeats 2000000 in
theorem ccheck_any (l : List Gram) (A : Option Addr) (c : Nat) (S : Nat → Prop) (w : World) (hl : l.length ≤ 1000) (hck : ∀ g ∈ l, checkI g = 0) (hA : Els w S l A) (hS : ∀ b, S b → b < w.heap.size) :
    Calls Tryd.prog 53 #[.slice A l.length c] w fun e w' => e = .returned (.int .i64 0) ∧ Below w.heap.size w w' := by
  have HA := Lib.hid hA
  have HS := Lib.hid hS
  have HC := Lib.hid hck
  have hl9 : l.length ≤ 9223372036854775807 := by omega
  clear hA hS hck
  go_enter Tryd.func53, Tryd.ntmps53
  go_wp2_with fail
  go_loopw [8] (fun i wr => ∃ t : Nat, t ≤ l.length ∧ i = .int .i64 t ∧ Below w.heap.size w wr) (fun i _ => l.length - (intOf i).toNat)
  case atStart => exact ⟨0, Nat.zero_le _, rfl, Below.refl _ _⟩
  case round =>
    obtain ⟨wo, hwo⟩ : ∃ wo : World, wo = wr := ⟨_, rfl⟩
    subst hwo
    obtain ⟨t, ht, rfl, hb⟩ := hrel
    have HB := Lib.hid hb
    clear hb
    by_cases hlt : t < l.length
    · obtain ⟨g, hg⟩ := get_some hlt
      obtain ⟨b, o, Ag, cg, rfl, hSb, hbs, hi, h1, h2, hEg, c0, c1, c2, c3⟩ := (HA.out.belowB HB.out HS.out).gram hg
      have hcg := HC.out g (List.mem_of_getElem? hg)
      obtain ⟨gt, gn, gs, rs⟩ := g
      dsimp only at h1 h2 hEg c0 c1 c2 c3
      have HCg := Lib.hid hcg
      have ht0 : (0 : Int) ≤ (t : Int) := by omega
      have hba : Below wo.heap.size wo (wo.alloc (.cells #[.int .i64 gt, .int .i64 gn, .int .i64 gs, .slice Ag rs.length cg] 25)) := (Below.refl _ _).alloc (Nat.le_refl _) _
      have HEg := Lib.hid (hEg.below hba)
      have HB1 := Lib.hid (bthen HB.out hba HB.out.size)
      clear hg hcg hba hEg hi
      go_wp2_with fail
      refine (check_any ⟨gt, gn, gs, rs⟩ Ag cg S _ h1 h2 HEg.out).mono ?_
      rintro e w1 ⟨rfl, hb1⟩
      rw [HCg.out]
      have HB2 := Lib.hid (bthen HB1.out hb1 HB1.out.size)
      clear hb1 c0 c1 c2 c3
      go_wp2
      go_roundw
      case rel => exact ⟨t + 1, hlt, by go_num, HB2.out⟩
      case measure => simp [intOf]; omega
    · go_wp2
      go_ret
      exact ⟨rfl, HB.out⟩

def JnO (l : List Gram) (T : Int) (w w1 : World) (i : Value) (wr : World) : Prop :=
  ∃ (t : Nat) (v : Value), t ≤ l.length ∧ i = .int .i64 t ∧ Own wr (fun _ => False) w1.heap.size 57 v (joinR 0 (l.take t)) ∧ Blk' wr (w.heap.size + 1) 25 #[.int .i64 T, .int .i64 (sumN (l.take t)), .int .i64 0, v] ∧
    Blk' wr w.heap.size 25 #[.int .i64 0, .int .i64 0, .int .i64 0, .slice none 0 0] ∧ Below w.heap.size w wr
def JnR (R0 : List Rule) (g : Gram) (T K : Int) (gb : Nat) (gc : Array Value) (w w1 : World) (i : Value) (wr : World) : Prop :=
  ∃ (j : Nat) (v : Value), j ≤ g.rules.length ∧ i = .int .i64 j ∧ Own wr (fun _ => False) w1.heap.size 57 v (R0 ++ (g.rules.take j).map (shR K)) ∧ Blk' wr (w.heap.size + 1) 25 #[.int .i64 T, .int .i64 K, .int .i64 0, v] ∧
    Blk' wr w.heap.size 25 #[.int .i64 0, .int .i64 0, .int .i64 0, .slice none 0 0] ∧ Blk' wr gb 25 gc ∧ v.ownBlock ≠ some gb ∧ Below w.heap.size w wr
def JnS (r : List Sym) (L K : Int) (xb : Nat) (wx : World) (i : Value) (wr : World) : Prop :=
  ∃ (s : Nat) (v : Value), s ≤ r.length ∧ i = .int .i64 s ∧ Own wr (fun _ => False) wx.heap.size 69 v ((r.take s).map (shS K)) ∧ Blk' wr xb 57 #[.int .i64 L, v] ∧ Kept (fun b => b = xb) wx wr

set_option maxRecDepth 100000 in
set_option maxHeartbeats 8000000 in
theorem join_any (l : List Gram) (more : Int) (g0 : Gram) (A : Option Addr) (c : Nat) (S : Nat → Prop) (w : World) (hl : l.length ≤ 3) (h0 : l[0]? = some g0) (hck : ∀ g ∈ l, checkI g = 0) (hm : 0 ≤ more) (hs : sumN l + more ≤ 10) (hA : Els w S l A) (hS : ∀ b, S b → b < w.heap.size) :
    Calls Tryd.prog 68 #[.int .i64 more, .slice A l.length c] w fun e w' => ∃ v, e = .returned (.tuple #[.agg #[.int .i64 g0.terms, .int .i64 (sumN l + more), .int .i64 (sumN l), v], .int .i64 0]) ∧ Own w' (fun _ => False) w.heap.size 57 v (joinR 0 l) ∧ Below w.heap.size w w' := by
  have hval : ∀ g ∈ l, ValidG g := fun g hg => validG_of (hck g hg)
  have hsum := sumN_take_le l (fun g hg => by have := (hval g hg).n1; omega)
  have HA := Lib.hid hA
  have HS := Lib.hid hS
  have HV := Lib.hid hval
  have HSum := Lib.hid hsum
  obtain ⟨b0, o0, A0, c0, rfl, hSb0, hb0, hi0, h01, h02, hE0, hc0, hc1, hc2, hc3⟩ := hA.gram h0
  rw [Nat.zero_mul, Nat.add_zero] at hc0
  obtain ⟨T, hT⟩ : ∃ T, T = g0.terms := ⟨_, rfl⟩
  rw [← hT] at hc0
  have HTe := Lib.hid hT
  have hl9 : (0 : Int) < (l.length : Int) := by have := (List.getElem?_eq_some_iff.1 h0).1; omega
  obtain ⟨w1, hw1⟩ : ∃ w1 : World, w1 = (w.alloc (.cells #[.int .i64 0, .int .i64 0, .int .i64 0, .slice none 0 0] 25)).alloc (.cells #[.int .i64 T, .int .i64 0, .int .i64 0, .slice none 0 0] 25) := ⟨_, rfl⟩
  have HW1 := Lib.hid hw1
  have hb1 : Below w.heap.size w w1 := by rw [hw1]; exact ((Below.refl _ _).alloc (Nat.le_refl _) _).alloc (by simp) _
  have HZ1 : Hid (w1.heap.size = w.heap.size + 1 + 1) := Lib.hid (by rw [hw1]; simp)
  have HR1 : Hid (Blk' w1 w.heap.size 25 #[.int .i64 0, .int .i64 0, .int .i64 0, .slice none 0 0]) := Lib.hid (by rw [hw1]; exact (Blk'.new w _ _).alloc _)
  have HO1 : Hid (Blk' w1 (w.heap.size + 1) 25 #[.int .i64 T, .int .i64 0, .int .i64 0, .slice none 0 0]) := Lib.hid (by rw [hw1]; exact Blk'.new' _ _ _ (by simp))
  have HB1 := Lib.hid hb1
  have hll9 : l.length ≤ 9223372036854775807 := by omega
  rw [← hT]
  clear hA hS hval hsum hw1 hb1 hE0 hi0 hT
  go_enter Tryd.func68, Tryd.ntmps68
  go_upto_region 2 with (fail)
  rw [← HW1.out]
  clear hc0 hc1 hc2 hc3
  go_wp2_with fail
  go_loopw [21] (fun i wr => JnO l T w w1 i wr) (fun i _ => l.length - (intOf i).toNat)
  case atStart => exact ⟨0, _, Nat.zero_le _, rfl, Own.nil _ _ _ _, HO1.out, HR1.out, HB1.out⟩
  case round =>
    obtain ⟨wo, hwo⟩ : ∃ wo : World, wo = wr := ⟨_, rfl⟩
    subst hwo
    obtain ⟨t, v, ht, rfl, hown, hO, hR, hb⟩ := hrel
    obtain ⟨Av, cv, rfl, hcv1, hcv2, _⟩ := hown.form
    have HOw := Lib.hid hown
    have HO := Lib.hid hO
    have HR := Lib.hid hR
    have HB := Lib.hid hb
    obtain ⟨K, hK⟩ : ∃ K, K = sumN (l.take t) := ⟨_, rfl⟩
    rw [← hK] at HO
    obtain ⟨R0, hR0⟩ : ∃ R0, R0 = joinR 0 (l.take t) := ⟨_, rfl⟩
    rw [← hR0] at HOw HO hcv1
    have HK := Lib.hid (And.intro hK hR0)
    have hK10 : 0 ≤ K ∧ K ≤ 10 := by have := HSum.out t; omega
    have hKa := hK10.1
    have hKb := hK10.2
    have o0 : wo.cell? ⟨w.heap.size + 1, 0, none⟩ = some (.int .i64 T) := HO.out.cell 0
    have o1 : wo.cell? ⟨w.heap.size + 1, 1, none⟩ = some (.int .i64 K) := HO.out.cell 1
    have o2 : wo.cell? ⟨w.heap.size + 1, 2, none⟩ = some (.int .i64 0) := HO.out.cell 2
    have o3 : wo.cell? ⟨w.heap.size + 1, 3, none⟩ = some (.slice Av R0.length cv) := HO.out.cell 3
    have zO : w.heap.size + 1 < wo.heap.size := HO.out.lt
    clear hown hO hR hb hK hR0 hK10
    by_cases hlt : t < l.length
    · obtain ⟨g, hg⟩ := get_some hlt
      obtain ⟨bg, og, Ag, cg, hbe, hSb, hbs, hi, h1, h2, hEg, c0', c1', c2', c3'⟩ := (HA.out.belowB HB.out HS.out).gram hg
      injection hbe with hbe
      injection hbe with e1 e2 _
      subst e1; subst e2
      have hvg := HV.out g (List.mem_of_getElem? hg)
      have HG := Lib.hid (And.intro hg hvg)
      have hgn : 1 ≤ g.nons := hvg.n1
      have hgk : K + g.nons ≤ 10 := by
        have h3 := HSum.out (t + 1)
        rw [take_snoc hg, sumN_snoc, ← HK.out.1] at h3
        omega
      have hrl : g.rules.length ≤ 32 := hvg.len
      obtain ⟨gt, gn, gs, rs⟩ := g
      dsimp only at h1 h2 hEg c0' c1' c2' c3' hgn hgk hrl
      have ht0 : (0 : Int) ≤ (t : Int) := by omega
      obtain ⟨wg, hwg⟩ : ∃ wg : World, wg = wo.alloc (.cells #[.int .i64 gt, .int .i64 gn, .int .i64 gs, .slice Ag rs.length cg] 25) := ⟨_, rfl⟩
      have HWg := Lib.hid hwg
      have hbg : Below wo.heap.size wo wg := by rw [hwg]; exact (Below.refl _ _).alloc (Nat.le_refl _) _
      have HGb : Hid (Blk' wg wo.heap.size 25 #[.int .i64 gt, .int .i64 gn, .int .i64 gs, .slice Ag rs.length cg]) := Lib.hid (by rw [hwg]; exact Blk'.new _ _ _)
      have HBg := Lib.hid (bthen HB.out hbg HB.out.size)
      have HOg := Lib.hid (HO.out.below hbg HO.out.lt)
      have HRg := Lib.hid (HR.out.below hbg HR.out.lt)
      have HOwg := Lib.hid (HOw.out.below hbg (Nat.le_refl _))
      have HEg := Lib.hid (hEg.below hbg)
      have HRl : Hid (R0.length ≤ 100) := Lib.hid (by
        have e : ∀ (l : List Gram) (k : Int), l.length ≤ 3 → (∀ g ∈ l, g.rules.length ≤ 32) → (joinR k l).length ≤ 32 * l.length := by
          intro l
          induction l with
          | nil => intro k _ _; simp [joinR]
          | cons x l ih =>
            intro k h1 h2
            have h3 := ih (k + x.nons) (by simp at h1; omega) (fun g hg => h2 g (by simp [hg]))
            have h4 := h2 x (by simp)
            simp only [joinR, List.length_append, List.length_map, List.length_cons]
            omega
        rw [HK.out.2]
        have := e (l.take t) 0 (by rw [List.length_take]; omega) (fun g hg => (HV.out g (List.mem_of_mem_take hg)).len)
        rw [List.length_take] at this
        omega)
      have g3 : wg.cell? ⟨wo.heap.size, 3, none⟩ = some (.slice Ag rs.length cg) := HGb.out.cell 3
      have zGb : wo.heap.size < wg.heap.size := HGb.out.lt
      clear hg hvg hwg hbg hEg hi
      go_upto_region 5 with (fail)
      rw [← HWg.out]
      clear c0' c1' c2' c3' o0 o1 o2 o3
      go_wp2_with fail
      clear g3
      go_loopw [28] (fun i wr => JnR R0 ⟨gt, gn, gs, rs⟩ T K wo.heap.size #[.int .i64 gt, .int .i64 gn, .int .i64 gs, .slice Ag rs.length cg] w w1 i wr) (fun i _ => rs.length - (intOf i).toNat)
      case atStart => exact ⟨0, _, Nat.zero_le _, rfl, by simpa using HOwg.out, HOg.out, HRg.out, HGb.out, (fun e => by have := (HOw.out.block _ e).2; omega), HBg.out⟩
      case round =>
        obtain ⟨wz, hwz⟩ : ∃ wz : World, wz = wr := ⟨_, rfl⟩
        subst hwz
        obtain ⟨j, v, hj, rfl, hown, hO, hR, hGz, hne, hb⟩ := hrel
        obtain ⟨Az, cz, rfl, hcz1, hcz2, _⟩ := hown.form
        dsimp only at hj
        have HOz := Lib.hid hown
        have HOb := Lib.hid hO
        have HRz := Lib.hid hR
        have HGz := Lib.hid hGz
        have HBz := Lib.hid hb
        have HNe := Lib.hid hne
        obtain ⟨R1, hR1⟩ : ∃ R1, R1 = R0 ++ (rs.take j).map (shR K) := ⟨_, rfl⟩
        rw [← hR1] at HOz HOb HNe hcz1
        have HR1e := Lib.hid hR1
        have HR1l : Hid (R1.length ≤ 200) := Lib.hid (by rw [hR1, List.length_append, List.length_map, List.length_take]; have := HRl.out; omega)
        have zOz : w.heap.size + 1 < wz.heap.size := hO.lt
        clear hown hO hR hGz hne hb hR1
        by_cases hjl : j < rs.length
        · obtain ⟨q, hq⟩ := get_some hjl
          obtain ⟨bq, oq, Aq, cq, rfl, hSbq, hbsq, hqi, hrc, hcr, hEr, hd0, hd1⟩ := (HEg.out.keep (S' := S) (w' := wz) (fun p hp hlt => by
            have h5 := HS.out _ hp
            rw [HBz.out.cell (by exact h5), HBg.out.cell (by exact h5)]) (fun _ h => h)).rule hq
          have hqv := HG.out.2.rules q (List.mem_of_getElem? hq)
          have HQ := Lib.hid hq
          obtain ⟨ql, qr⟩ := q
          dsimp only at hqi hrc hcr hEr hd0 hd1 hqv
          have hql0 : 0 ≤ ql := hqv.1
          have hql1 : ql < gn := hqv.2.1
          have hqr4 : qr.length ≤ 4 := hqv.2.2.1
          have HSy := Lib.hid hqv.2.2.2
          have hj0 : (0 : Int) ≤ (j : Int) := by omega
          have hwr : IntKind.i64.wrap (ql + K) = ql + K := IntWalk.i64_in _ (by omega)
          obtain ⟨wq, hwq⟩ : ∃ wq : World, wq = (wz.alloc (.cells #[.int .i64 ql, .slice Aq qr.length cq] 57)).alloc (.cells #[.int .i64 (ql + K), .slice none 0 0] 57) := ⟨_, rfl⟩
          have HWq := Lib.hid hwq
          have hbq : Below wz.heap.size wz wq := by rw [hwq]; exact ((Below.refl _ _).alloc (Nat.le_refl _) _).alloc (by simp) _
          have HBq := Lib.hid hbq
          have HQb : Hid (Blk' wq wz.heap.size 57 #[.int .i64 ql, .slice Aq qr.length cq]) := Lib.hid (by rw [hwq]; exact (Blk'.new _ _ _).alloc _)
          have HXb : Hid (Blk' wq (wz.heap.size + 1) 57 #[.int .i64 (ql + K), .slice none 0 0]) := Lib.hid (by rw [hwq]; exact Blk'.new' _ _ _ (by simp))
          have HOq := Lib.hid (HOb.out.below hbq HOb.out.lt)
          have HErq := Lib.hid (hEr.below hbq)
          have q1 : wq.cell? ⟨wz.heap.size, 1, none⟩ = some (.slice Aq qr.length cq) := HQb.out.cell 1
          have zQ : wz.heap.size < wq.heap.size := HQb.out.lt
          have hqr9 : qr.length ≤ 9223372036854775807 := by omega
          have p1 : wz.cell? ⟨w.heap.size + 1, 1, none⟩ = some (.int .i64 K) := HOb.out.cell 1
          have n01 : ¬ w.heap.size + 1 = wz.heap.size := by omega
          have HZq : Hid (wz.heap.size + 1 < wq.heap.size) := Lib.hid HXb.out.lt
          clear hq hwq hbq hEr hqi hqv
          go_upto_region 9 with (fail)
          rw [← HWq.out]
          clear hd0 hd1 p1
          go_wp2_with fail
          clear q1
          go_loopw [41] (fun i wr => JnS qr (ql + K) K (wz.heap.size + 1) wq i wr) (fun i _ => qr.length - (intOf i).toNat)
          case atStart => exact ⟨0, _, Nat.zero_le _, rfl, Own.nil _ _ _ _, HXb.out, Kept.refl _ _⟩
          case round =>
            obtain ⟨wy, hwy⟩ : ∃ wy : World, wy = wr := ⟨_, rfl⟩
            subst hwy
            obtain ⟨s, v2, hs, rfl, hown, hX, hkp⟩ := hrel
            obtain ⟨A2, c2, rfl, hc21, hc22, _⟩ := hown.form
            have HO2 := Lib.hid hown
            have HX := Lib.hid hX
            have HKp := Lib.hid hkp
            obtain ⟨R2, hR2⟩ : ∃ R2, R2 = (qr.take s).map (shS K) := ⟨_, rfl⟩
            rw [← hR2] at HO2 HX hc21
            have HR2e := Lib.hid hR2
            have hR2l : R2.length ≤ 4 := by rw [hR2, List.length_map, List.length_take]; omega
            have HR2l := Lib.hid hR2l
            have hzq : wq.heap.size ≤ wy.heap.size := hkp.size
            have HOy := Lib.hid (HOq.out.kept hkp (by omega))
            clear hown hX hkp hR2 hR2l
            by_cases hsl : s < qr.length
            · obtain ⟨x, hx⟩ := get_some hsl
              obtain ⟨bx, ox, rfl, hSx, hbx, hxi, hxc0, hxc1⟩ := (HErq.out.kept HKp.out (fun b h e => by have := HS.out b h; have := HBz.out.size; omega)).sym hx
              have hxs := HSy.out x (List.mem_of_getElem? hx)
              have HXs := Lib.hid hx
              obtain ⟨st, sn⟩ := x
              dsimp only at hxi hxc0 hxc1 hxs
              have hs0 : (0 : Int) ≤ (s : Int) := by omega
              have hsn0 := hxs.1
              have hsn1 : sn < 11 := by
                have h6 := hxs.2
                have h7 := HG.out.2.t8
                dsimp only at h7 h6
                split at h6 <;> omega
              obtain ⟨zn, hzn⟩ : ∃ zn, zn = (if st then sn else sn + K) := ⟨_, rfl⟩
              have HSh : Hid (shS K ⟨st, sn⟩ = ⟨st, zn⟩) := Lib.hid (by rw [hzn]; cases st <;> simp [shS])
              have hzi : I64 zn := by rw [hzn]; unfold I64; cases st <;> simp <;> omega
              have HZi := Lib.hid hzi
              obtain ⟨ws, hws⟩ : ∃ ws : World, ws = wy.alloc (.cells #[.bool st, .int .i64 zn] 69) := ⟨_, rfl⟩
              have HWs := Lib.hid hws
              have hbs2 : Below wy.heap.size wy ws := by rw [hws]; exact (Below.refl _ _).alloc (Nat.le_refl _) _
              have HSb : Hid (Blk' ws wy.heap.size 69 #[.bool st, .int .i64 zn]) := Lib.hid (by rw [hws]; exact Blk'.new _ _ _)
              have HXw := Lib.hid (HX.out.below hbs2 HX.out.lt)
              have HO2w := Lib.hid (HO2.out.below hbs2 (Nat.le_refl _))
              have HKw := Lib.hid (HKp.out.trans (Kept.of_below (fun b => b = wz.heap.size + 1) hbs2))
              have hzy : wy.heap.size < ws.heap.size := HSb.out.lt
              have s0 : ws.cell? ⟨wy.heap.size, 0, none⟩ = some (.bool st) := HSb.out.cell 0
              have s1 : ws.cell? ⟨wy.heap.size, 1, none⟩ = some (.int .i64 zn) := HSb.out.cell 1
              have x1 : ws.cell? ⟨wz.heap.size + 1, 1, none⟩ = some (.slice A2 R2.length c2) := HXw.out.cell 1
              have zX : wz.heap.size + 1 < ws.heap.size := HXw.out.lt
              have hcap1 : (R2.length + 1) * 16 ≤ 140737488355328 := by have := HR2l.out; omega
              have hcap2 : R2.length + 1 ≤ 9223372036854775807 := by have := HR2l.out; omega
              have hwr2 : IntKind.i64.wrap (sn + K) = sn + K := IntWalk.i64_in _ (by omega)
              have y1 : wy.cell? ⟨w.heap.size + 1, 1, none⟩ = some (.int .i64 K) := HOy.out.cell 1
              have zOy : w.heap.size + 1 < wy.heap.size := HOy.out.lt
              have n02 : ¬ w.heap.size + 1 = wy.heap.size := by omega
              have n03 : ¬ wz.heap.size + 1 = wy.heap.size := by have := HZq.out; omega
              clear hx hxi hxs hws hbs2 hzi
              cases st
              · simp only [Bool.false_eq_true, if_false, if_true] at hzn
                subst hzn
                go_upto_region 14 with (fail)
                rw [← HWs.out]
                clear hxc0 hxc1 y1
                have HRg : Hid (Dat.rd (ws.alloc (.cells #[.bool false, .int .i64 (sn + K)] 69)) (OwnT (fun _ => False) wq.heap.size (.slice A2 R2.length c2) (ws.alloc (.cells #[.bool false, .int .i64 (sn + K)] 69))) (⟨false, sn + K⟩ : Sym) [.bool false, .int .i64 (sn + K)]) := Lib.hid ⟨rfl, HZi.out⟩
                go_wp2_with ((at_builtin); (refine wpList_own1 _ rfl _ _ elemSym rfl rfl (HO2w.out.alloc (.cells #[.bool false, .int .i64 (sn + K)] 69)) ⟨false, sn + K⟩ [.bool false, .int .i64 (sn + K)] rfl (At.new _ _ _) HRg.out hcap1 hcap2 (by have := HKw.out.size; simp; omega) ?_); (intro v' w4 hown4 hg4 hat4); (obtain ⟨A9, k9, hv9, _⟩ := hown4.form); (rw [snoc_len] at hv9); (subst hv9); (have hX4 := (HXw.out.alloc (.cells #[.bool false, .int .i64 (sn + K)] 69)).grown hg4 (fun e => by have h9 := (HO2w.out.block _ e.symm).1; have := HZq.out; omega)); (have m1 := hX4.cell 1); (have f1 := hX4.frozen 1); (have zX4 := hX4.lt); (have H4 := Lib.hid (And.intro hown4 (And.intro hg4 hX4))); (clear hown4 hg4 hat4 hX4); (simp at m1))
                go_roundw
                case rel =>
                  obtain ⟨hown4, hg4, hX4⟩ := H4.out
                  refine ⟨s + 1, _, hsl, by go_num, ?_, hX4.set_ 1 _, ((HKw.out.alloc (.cells #[.bool false, .int .i64 (sn + K)] 69)).grown hg4 (fun k hk => .inr (HO2w.out.block k hk).1)).setCell (p := ⟨wz.heap.size + 1, 1, none⟩) (.inl rfl) _⟩
                  rw [take_snoc HXs.out, List.map_append, ← HR2e.out]
                  show Own _ _ _ _ _ (R2 ++ [shS K ⟨false, sn⟩])
                  rw [HSh.out]
                  exact hown4.setCell (p := ⟨wz.heap.size + 1, 1, none⟩) (fun e => by have h9 := (hown4.block _ e).1; have := HZq.out; dsimp only at h9; omega) (by have := HZq.out; simp; omega) _
                case measure => simp [intOf]; omega
              · simp only [Bool.false_eq_true, if_false, if_true] at hzn
                subst hzn
                go_upto_region 14 with (fail)
                rw [← HWs.out]
                clear hxc0 hxc1 y1
                have HRg : Hid (Dat.rd (ws.alloc (.cells #[.bool true, .int .i64 (zn)] 69)) (OwnT (fun _ => False) wq.heap.size (.slice A2 R2.length c2) (ws.alloc (.cells #[.bool true, .int .i64 (zn)] 69))) (⟨true, zn⟩ : Sym) [.bool true, .int .i64 (zn)]) := Lib.hid ⟨rfl, HZi.out⟩
                go_wp2_with ((at_builtin); (refine wpList_own1 _ rfl _ _ elemSym rfl rfl (HO2w.out.alloc (.cells #[.bool true, .int .i64 (zn)] 69)) ⟨true, zn⟩ [.bool true, .int .i64 (zn)] rfl (At.new _ _ _) HRg.out hcap1 hcap2 (by have := HKw.out.size; simp; omega) ?_); (intro v' w4 hown4 hg4 hat4); (obtain ⟨A9, k9, hv9, _⟩ := hown4.form); (rw [snoc_len] at hv9); (subst hv9); (have hX4 := (HXw.out.alloc (.cells #[.bool true, .int .i64 (zn)] 69)).grown hg4 (fun e => by have h9 := (HO2w.out.block _ e.symm).1; have := HZq.out; omega)); (have m1 := hX4.cell 1); (have f1 := hX4.frozen 1); (have zX4 := hX4.lt); (have H4 := Lib.hid (And.intro hown4 (And.intro hg4 hX4))); (clear hown4 hg4 hat4 hX4); (simp at m1))
                go_roundw
                case rel =>
                  obtain ⟨hown4, hg4, hX4⟩ := H4.out
                  refine ⟨s + 1, _, hsl, by go_num, ?_, hX4.set_ 1 _, ((HKw.out.alloc (.cells #[.bool true, .int .i64 (zn)] 69)).grown hg4 (fun k hk => .inr (HO2w.out.block k hk).1)).setCell (p := ⟨wz.heap.size + 1, 1, none⟩) (.inl rfl) _⟩
                  rw [take_snoc HXs.out, List.map_append, ← HR2e.out]
                  show Own _ _ _ _ _ (R2 ++ [shS K ⟨true, zn⟩])
                  rw [HSh.out]
                  exact hown4.setCell (p := ⟨wz.heap.size + 1, 1, none⟩) (fun e => by have h9 := (hown4.block _ e).1; have := HZq.out; dsimp only at h9; omega) (by have := HZq.out; simp; omega) _
                case measure => simp [intOf]; omega
            · have hss : s = qr.length := by omega
              have HFq : Hid (R2 = qr.map (shS K)) := Lib.hid (by rw [HR2e.out, hss, List.take_of_length_le (Nat.le_refl _)])
              have hBzy : Below w.heap.size w wy := (HBz.out.trans (HBq.out.mono HBz.out.size)).trans (HKp.out.to_below (B := w.heap.size) (fun b hb => by omega) (by have := HBz.out.size; have := HBq.out.size; omega))
              have HBzy := Lib.hid hBzy
              have hOy2 := HOy.out
              have o3 : wy.cell? ⟨w.heap.size + 1, 3, none⟩ = some (.slice Az R1.length cz) := hOy2.cell 3
              have zOy : w.heap.size + 1 < wy.heap.size := hOy2.lt
              have x0 : wy.cell? ⟨wz.heap.size + 1, 0, none⟩ = some (.int .i64 (ql + K)) := HX.out.cell 0
              have x1 : wy.cell? ⟨wz.heap.size + 1, 1, none⟩ = some (.slice A2 R2.length c2) := HX.out.cell 1
              have zX : wz.heap.size + 1 < wy.heap.size := HX.out.lt
              have hcap1 : (R1.length + 1) * 32 ≤ 140737488355328 := by have := HR1l.out; omega
              have hcap2 : R1.length + 1 ≤ 9223372036854775807 := by have := HR1l.out; omega
              have hba : Below wy.heap.size wy (wy.alloc (.cells #[.int .i64 (ql + K), .slice A2 R2.length c2] 57)) := (Below.refl _ _).alloc (Nat.le_refl _) _
              have HOn := Lib.hid ((HOz.out.below (HBq.out.trans (HKp.out.to_below (B := wz.heap.size) (fun b (hb : b = wz.heap.size + 1) => by omega) HBq.out.size)) (Nat.le_refl _)).alloc (.cells #[.int .i64 (ql + K), .slice A2 R2.length c2] 57))
              have HRd : Hid (Dat.rd (wy.alloc (.cells #[.int .i64 (ql + K), .slice A2 R2.length c2] 57)) (OwnT (fun _ => False) w1.heap.size (.slice Az R1.length cz) (wy.alloc (.cells #[.int .i64 (ql + K), .slice A2 R2.length c2] 57))) (⟨ql + K, R2⟩ : Rule) [.int .i64 (ql + K), .slice A2 R2.length c2]) := Lib.hid ⟨_, rfl, by show I64 (ql + K); unfold I64; omega, Vl.of_slice rfl hc21 hc22 ((HO2.out.vl.els.2.2.2.below hba).keep (fun _ _ _ => rfl) (fun b hb => by
                have h9 := HZq.out
                have h8 := HBz.out.size
                have h7 := HZ1.out
                refine ⟨.inr (by rcases hb.1 with h | h; exact h.elim; omega), fun e => ?_, Nat.lt_of_lt_of_le hb.2 hba.size⟩
                have h3 := (HOz.out.block b e).2
                rcases hb.1 with h | h
                · exact h
                · omega))⟩
              clear hBzy hOy2 hba hss
              go_wp2_with ((at_builtin); (refine wpList_own1 _ rfl _ _ elemRule rfl rfl HOn.out ⟨ql + K, R2⟩ [.int .i64 (ql + K), .slice A2 R2.length c2] rfl (At.new _ _ _) HRd.out hcap1 hcap2 (by have := HBzy.out.size; have := HZ1.out; simp; omega) ?_); (intro v' w4 hown4 hg4 hat4); (obtain ⟨A9, k9, hv9, _⟩ := hown4.form); (rw [snoc_len] at hv9); (subst hv9); (have hO4 := (HOy.out.alloc (.cells #[.int .i64 (ql + K), .slice A2 R2.length c2] 57)).grown hg4 (fun e => by have h9 := (HOz.out.block _ e.symm).1; have := HZ1.out; omega)); (have m3 := hO4.cell 3); (have f3 := hO4.frozen 3); (have zO4 := hO4.lt); (have H4 := Lib.hid (And.intro hown4 (And.intro hg4 (And.intro hO4 hat4)))); (clear hown4 hg4 hat4 hO4); (simp at m3))
              go_roundw
              case rel =>
                obtain ⟨hown4, hg4, hO4, hat4⟩ := H4.out
                have hz1 := HZ1.out
                have hnb : ∀ k, (Value.slice Az R1.length cz).ownBlock = some k → w1.heap.size ≤ k ∧ k < wz.heap.size := fun k hk => HOz.out.block k hk
                have hkk : Kept (fun b => b = w.heap.size + 1 ∨ (Value.slice Az R1.length cz).ownBlock = some b ∨ b = wz.heap.size + 1) wz (w4.setCell ⟨w.heap.size + 1, 3, none⟩ (.slice A9 (R1.length + 1) k9)) :=
                  ((((Kept.of_below _ HBq.out).trans (HKp.out.mono (fun b _ h => .inr (.inr h)))).alloc _).grown hg4 (fun k hk => .inl (.inr (.inl hk)))).setCell (p := ⟨w.heap.size + 1, 3, none⟩) (.inl (.inl rfl)) _
                have hne4 : (Value.slice A9 (R1.length + 1) k9).ownBlock ≠ some wo.heap.size := fun e => by
                  rcases hat4 with h | h
                  · rw [h] at e; exact HNe.out e
                  · rw [h] at e; injection e with e; have := HGz.out.lt; have := HBq.out.size; have := HKp.out.size; simp at e; omega
                have hzG := HGz.out.lt
                refine ⟨j + 1, _, hjl, by go_num, ?_, hO4.set_ 3 _, HRz.out.kept hkk (fun h => by
                  rcases h with h | h | h
                  · omega
                  · have := hnb _ h; omega
                  · have := HRz.out.lt; omega), HGz.out.kept hkk (fun h => by
                  rcases h with h | h | h
                  · have := zO; omega
                  · exact HNe.out h
                  · omega), hne4, HBz.out.trans (hkk.to_below (B := w.heap.size) (fun b hb => by
                  rcases hb with h | h | h
                  · omega
                  · have := hnb _ h; omega
                  · have := HBz.out.size; omega) HBz.out.size)⟩
                rw [take_snoc HQ.out, List.map_append, ← List.append_assoc, ← HR1e.out]
                show Own _ _ _ _ _ (R1 ++ [shR K ⟨ql, qr⟩])
                rw [show shR K ⟨ql, qr⟩ = ⟨ql + K, R2⟩ by unfold shR; rw [HFq.out]]
                exact hown4.setCell (p := ⟨w.heap.size + 1, 3, none⟩) (fun e => by have h9 := (hown4.block _ e).1; dsimp only at h9; omega) (by simp; omega) _
              case measure => simp [intOf]; omega
        · have hjj : j = rs.length := by omega
          have HF1 : Hid (R1 = joinR 0 (l.take (t + 1)) ∧ K + gn = sumN (l.take (t + 1))) := Lib.hid (by
            rw [take_snoc HG.out.1, joinR_snoc, sumN_snoc, ← HK.out.1, ← HK.out.2, HR1e.out, hjj, List.take_of_length_le (Nat.le_refl _), Int.zero_add]
            exact ⟨rfl, rfl⟩)
          have o0 : wz.cell? ⟨w.heap.size + 1, 1, none⟩ = some (.int .i64 K) := HOb.out.cell 1
          have f1 := HOb.out.frozen 1
          have g1 : wz.cell? ⟨wo.heap.size, 1, none⟩ = some (.int .i64 gn) := HGz.out.cell 1
          have zGz : wo.heap.size < wz.heap.size := HGz.out.lt
          have hwr3 : IntKind.i64.wrap (K + gn) = K + gn := IntWalk.i64_in _ (by omega)
          have ng : ¬ w.heap.size + 1 = wo.heap.size := by omega
          have hkd := (Kept.refl (fun b => b = w.heap.size + 1) wz).setCell (p := ⟨w.heap.size + 1, 1, none⟩) (.inl rfl) (.int .i64 (K + gn))
          have HKd := Lib.hid hkd
          clear hkd
          go_wp2
          go_roundw
          case rel =>
            refine ⟨t + 1, _, hlt, by go_num, ?_, by rw [← HF1.out.2]; exact HOb.out.set_ 1 _, HRz.out.kept HKd.out (by omega), HBz.out.trans (HKd.out.to_below (B := w.heap.size) (fun b hb => by omega) HBz.out.size)⟩
            rw [← HF1.out.1]
            exact HOz.out.kept HKd.out (fun b (hb : b = w.heap.size + 1) h => h.elim id (fun h => by have := HZ1.out; omega))
          case measure => simp [intOf]; omega
    · have htt : t = l.length := by omega
      have HFin : Hid (R0 = joinR 0 l ∧ K = sumN l) := Lib.hid ⟨by rw [HK.out.2, htt, List.take_of_length_le (Nat.le_refl _)], by rw [HK.out.1, htt, List.take_of_length_le (Nat.le_refl _)]⟩
      have f1 := HO.out.frozen 1
      have f2 := HO.out.frozen 2
      have hK2 : K + more ≤ 10 := by rw [HFin.out.2]; exact hs
      have hwr4 : IntKind.i64.wrap (K + more) = K + more := IntWalk.i64_in _ (by omega)
      have hgt : ¬ 10 < K + more := by omega
      have r0 := HR.out.frozen 0
      have r1 := HR.out.frozen 1
      have r2 := HR.out.frozen 2
      have r3 := HR.out.frozen 3
      have q0 : wo.cell? ⟨w.heap.size, 0, none⟩ = some (.int .i64 0) := HR.out.cell 0
      have q1 : wo.cell? ⟨w.heap.size, 1, none⟩ = some (.int .i64 0) := HR.out.cell 1
      have q2 : wo.cell? ⟨w.heap.size, 2, none⟩ = some (.int .i64 0) := HR.out.cell 2
      have q3 : wo.cell? ⟨w.heap.size, 3, none⟩ = some (.slice none 0 0) := HR.out.cell 3
      have zR : w.heap.size < wo.heap.size := HR.out.lt
      have nR : ¬ w.heap.size = w.heap.size + 1 := by omega
      have nR2 : ¬ w.heap.size + 1 = w.heap.size := by omega
      clear htt
      go_wp2_with fail
      generalize hwF : World.setCell _ _ _ = wF
      have hkA : Kept (fun b => b = w.heap.size + 1) wo ((wo.setCell ⟨w.heap.size + 1, 2, none⟩ (.int .i64 K)).setCell ⟨w.heap.size + 1, 1, none⟩ (.int .i64 (K + more))) := ((Kept.refl (fun b => b = w.heap.size + 1) wo).setCell (p := ⟨w.heap.size + 1, 2, none⟩) (.inl rfl) _).setCell (p := ⟨w.heap.size + 1, 1, none⟩) (.inl rfl) _
      obtain ⟨hRF, kF⟩ := set4 (HR.out.kept hkA (by omega)) (.int .i64 T) (.int .i64 (K + more)) (.int .i64 K) (.slice Av R0.length cv)
      rw [hwF] at hRF kF
      have kAF : Kept (fun b => b = w.heap.size ∨ b = w.heap.size + 1) wo wF := (hkA.mono (fun b _ h => .inr h)).trans (kF.mono (fun b _ h => .inl h))
      have u0 : wF.cell? ⟨w.heap.size, 0, none⟩ = some (.int .i64 T) := hRF.cell 0
      have u1 : wF.cell? ⟨w.heap.size, 1, none⟩ = some (.int .i64 (K + more)) := hRF.cell 1
      have u2 : wF.cell? ⟨w.heap.size, 2, none⟩ = some (.int .i64 K) := hRF.cell 2
      have u3 : wF.cell? ⟨w.heap.size, 3, none⟩ = some (.slice Av R0.length cv) := hRF.cell 3
      clear hwF
      refine bodyPost_ret (v := .tuple #[.agg #[.int .i64 T, .int .i64 (K + more), .int .i64 K, .slice Av R0.length cv], .int .i64 0]) (by simp [results, Tryd.results68, go_sem, u0, u1, u2, u3]) rfl ⟨.slice Av R0.length cv, by rw [HFin.out.2], ?_, HB.out.trans (kAF.to_below (B := w.heap.size) (fun b hb => by rcases hb with hb | hb <;> omega) HB.out.size)⟩
      rw [← HFin.out.1]
      exact (HOw.out.kept kAF (fun b hb h => h.elim id (fun h => by have := HZ1.out; rcases hb with hb | hb <;> omega))).base (by have := HZ1.out; omega)
end Go.Proofs.YtnlpeiffbnlncaaDoor
