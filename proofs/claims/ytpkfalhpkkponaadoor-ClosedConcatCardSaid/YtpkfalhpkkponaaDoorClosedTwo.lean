/- Contracts: closed.two of Concat's rules; closed.Concat. -/
import Derived.Test.YtpkfalhpkkponaaDoorClosedStar
namespace Go.Proofs.YtpkfalhpkkponaaDoor
open Go.RowKit
set_option linter.unusedVariables false

section
variable {P : Program} (w : World) {T : Nat → Prop} {base : Nat} {α : Type} [Dat α]
theorem wpList_ownX1 {ops : Array Oper} {rest : List Oper} {o : Oper} {a : Act} {Q : Exit → Act → World → Prop} (hgd : o.guard = none) (s xo : Operand) {t e : TypeId} {bytes : Nat} (hT : ElemT P α t e bytes)
    (ho : o.op = .call { callee := .builtin .append, args := #[s, xo], argTypes := #[t, t] })
    {v : Value} {xs : List α} (hs : a.eval s = v) (hown : OwnX w T base e v xs) (x : α) (cs : List Value) {g c : Nat} (hx : a.eval xo = .slice (some ⟨g, 0, none⟩) 1 c)
    (hat : At w g 0 cs) (hrd : Dat.rd w T x cs) (hlen : (xs.length + 1) * bytes ≤ 140737488355328) (hmax : xs.length + 1 ≤ 9223372036854775807) (hbase : base ≤ w.heap.size)
    (h : ∀ v' w', OwnX w' T base e v' (xs ++ [x]) → w.grownBy w' v.ownBlock → (v'.ownBlock = v.ownBlock ∨ v'.ownBlock = some w.heap.size) → wpList P ops Q rest (a.put o.dst v') w') : wpList P ops Q (o :: rest) a w :=
  wpList_plain hgd fun _ hK => by
    obtain ⟨v', w', hrun, h2, h3, h4⟩ := run_ownX1 (ty := o.type) (c := c) hT hown hat hrd hlen hmax hbase
    unfold Oper.wp execOp
    simp only [ho, resolve, invoke, builtin, Sem.run_bind, Sem.run_pure, Result.andThen_ok, List.map_toArray, List.map_cons, List.map_nil, hs, hx, hrun]
    exact hK _ _ (h v' w' h2 h3 h4)
end
theorem els_gram2 {w : World} {S : Nat → Prop} {g h : Gram} {A B : Option Addr} {c d : Nat} (t : TypeId) (hA : Els w S g.rules A) (h1 : g.rules.length ≤ c) (h2 : c ≤ 9223372036854775807) (hi : I64 g.terms ∧ I64 g.nons ∧ I64 g.start)
    (hB : Els w S h.rules B) (k1 : h.rules.length ≤ d) (k2 : d ≤ 9223372036854775807) (hj : I64 h.terms ∧ I64 h.nons ∧ I64 h.start) :
    Els (w.alloc (.cells #[.int .i64 g.terms, .int .i64 g.nons, .int .i64 g.start, .slice A g.rules.length c, .int .i64 h.terms, .int .i64 h.nons, .int .i64 h.start, .slice B h.rules.length d] t)) (fun b => S b ∨ b = w.heap.size) [g, h] (some ⟨w.heap.size, 0, none⟩) := fun _ => by
  have hb : Below w.heap.size w (w.alloc (.cells #[.int .i64 g.terms, .int .i64 g.nons, .int .i64 g.start, .slice A g.rules.length c, .int .i64 h.terms, .int .i64 h.nons, .int .i64 h.start, .slice B h.rules.length d] t)) := (Below.refl _ _).alloc (Nat.le_refl _) _
  refine ⟨w.heap.size, 0, rfl, .inr rfl, fun i z hz => ?_⟩
  match i, hz with
  | 0, hz =>
    simp at hz; subst hz
    refine ⟨[.int .i64 g.terms, .int .i64 g.nons, .int .i64 g.start, .slice A g.rules.length c], ⟨_, rfl, hi.1, hi.2.1, hi.2.2, Vl.of_slice rfl h1 h2 ((hA.below hb).keep (fun _ _ _ => rfl) (fun b h => .inl h))⟩, fun j u hu => ?_⟩
    rw [show 0 + 0 * Dat.size Gram + j = j by omega, (Blk'.new w t _).cell j]
    match j, hu with
    | 0, hu => simp at hu; subst hu; rfl
    | 1, hu => simp at hu; subst hu; rfl
    | 2, hu => simp at hu; subst hu; rfl
    | 3, hu => simp at hu; subst hu; rfl
  | 1, hz =>
    simp at hz; subst hz
    refine ⟨[.int .i64 h.terms, .int .i64 h.nons, .int .i64 h.start, .slice B h.rules.length d], ⟨_, rfl, hj.1, hj.2.1, hj.2.2, Vl.of_slice rfl k1 k2 ((hB.below hb).keep (fun _ _ _ => rfl) (fun b h => .inl h))⟩, fun j u hu => ?_⟩
    rw [show 0 + 1 * Dat.size Gram + j = 4 + j by show 0 + 1 * 4 + j = 4 + j; omega, (Blk'.new w t _).cell (4 + j)]
    match j, hu with
    | 0, hu => simp at hu; subst hu; rfl
    | 1, hu => simp at hu; subst hu; rfl
    | 2, hu => simp at hu; subst hu; rfl
    | 3, hu => simp at hu; subst hu; rfl

set_option maxRecDepth 100000 in
theorem concat1_any (s1 s2 : Sym) (w : World) (h1 : I64 s1.n) (h2 : I64 s2.n) :
    Calls Tryd.prog 53 #[.agg #[.bool s1.term, .int .i64 s1.n], .agg #[.bool s2.term, .int .i64 s2.n]] w fun e w' => ∃ b1 b2, e = .returned (.slice (some ⟨b1, 0, none⟩) 1 1) ∧ w'.cell? ⟨b1, 0, none⟩ = some (.slice (some ⟨b2, 0, none⟩) 2 2) ∧ Els w' (fun b => b = b2) [s1, s2] (some ⟨b2, 0, none⟩) ∧ w.heap.size ≤ b1 ∧ b1 < w'.heap.size ∧ w.heap.size ≤ b2 ∧ b2 < w'.heap.size ∧ Below w.heap.size w w' := by
  go_enter Tryd.func53, Tryd.ntmps53
  go_wp2
  refine bodyPost_ret (v := .slice (some ⟨w.heap.size + 1 + 1 + 1, 0, none⟩) 1 1) (by simp [results, Tryd.results53, go_sem]) rfl ⟨w.heap.size + 1 + 1 + 1, w.heap.size + 1 + 1, rfl, ?_, ?_, by omega, by simp, by omega, by simp, ?_⟩
  · exact (Blk'.new' (g := w.heap.size + 1 + 1 + 1) _ _ #[.slice (some ⟨w.heap.size + 1 + 1, 0, none⟩) 2 2] (by simp)).cell 0
  · have h := els_sym2 (w := (w.alloc (.cells #[.bool s1.term, .int .i64 s1.n] 82)).alloc (.cells #[.bool s2.term, .int .i64 s2.n] 82)) (s1 := s1) (s2 := s2) 82 h1 h2
    have e : ((w.alloc (.cells #[.bool s1.term, .int .i64 s1.n] 82)).alloc (.cells #[.bool s2.term, .int .i64 s2.n] 82)).heap.size = w.heap.size + 1 + 1 := by simp
    rw [e] at h
    exact h.below ((Below.refl _ _).alloc (Nat.le_refl _) _)
  · exact ((((Below.refl _ _).alloc (Nat.le_refl _) _).alloc (by simp) _).alloc (by simp; omega) _).alloc (by simp; omega) _

def TwF (gt N : Int) (R : List Rule) (X base : Nat) (w : World) (wr : World) : Prop :=
  ∃ A9 c9, R.length ≤ c9 ∧ c9 ≤ 9223372036854775807 ∧ Blk' wr X 25 #[.int .i64 gt, .int .i64 (N + 1), .int .i64 N, .slice A9 R.length c9] ∧ Own wr (fun _ => False) base 68 (.slice A9 R.length c9) R ∧ Blk' wr (w.heap.size + 1 + 1) 25 #[.int .i64 0, .int .i64 0, .int .i64 0, .slice none 0 0] ∧ Below w.heap.size w wr
set_option maxRecDepth 100000 in
set_option maxHeartbeats 8000000 in
theorem two_any (g h : Gram) (A B : Option Addr) (c d : Nat) (S : Nat → Prop) (w : World) (hck : checkI g = 0) (hckh : checkI h = 0) (hte : h.terms = g.terms) (hck2 : checkI (concatG g h) = 0) (hlc : g.rules.length ≤ c) (hc : c ≤ 9223372036854775807) (hA : Els w S g.rules A) (hld : h.rules.length ≤ d) (hd : d ≤ 9223372036854775807) (hB : Els w S h.rules B) (hS : ∀ b, S b → b < w.heap.size) :
    Calls Tryd.prog 52 #[.agg #[.int .i64 g.terms, .int .i64 g.nons, .int .i64 g.start, .slice A g.rules.length c], .agg #[.int .i64 h.terms, .int .i64 h.nons, .int .i64 h.start, .slice B h.rules.length d], .func (.func 53) #[] #[]] w fun e w' => ∃ A' c', e = .returned (.tuple #[.agg #[.int .i64 g.terms, .int .i64 (g.nons + h.nons + 1), .int .i64 (g.nons + h.nons), .slice A' (concatG g h).rules.length c'], .int .i64 0]) ∧ (concatG g h).rules.length ≤ c' ∧ c' ≤ 9223372036854775807 ∧ Els w' (fun b => w.heap.size ≤ b ∧ b < w'.heap.size) (concatG g h).rules A' ∧ Below w.heap.size w w' := by
  have hv := validG_of hck
  have hvh := validG_of hckh
  have hv2 := validG_of hck2
  have hn10 : g.nons + h.nons + 1 ≤ 10 := hv2.n10
  have hb64 : I64 g.terms ∧ I64 g.nons ∧ I64 g.start := by
    have h1 := hv.t1; have h2 := hv.t8; have h3 := hv.n1; have h4 := hv.n10; have h5 := hv.s0; have h6 := hv.s1
    unfold I64; omega
  have hb64h : I64 h.terms ∧ I64 h.nons ∧ I64 h.start := by
    have h1 := hvh.t1; have h2 := hvh.t8; have h3 := hvh.n1; have h4 := hvh.n10; have h5 := hvh.s0; have h6 := hvh.s1
    unfold I64; omega
  have hjr : joinR 0 [g, h] ++ [⟨g.nons + h.nons, [⟨false, g.start⟩, ⟨false, g.nons + h.start⟩]⟩] = (concatG g h).rules := by simp [joinR, concatG]
  have hs0 : 0 ≤ g.start ∧ g.start < g.nons := ⟨hv.s0, hv.s1⟩
  have hs1 : 0 ≤ h.start ∧ h.start < h.nons := ⟨hvh.s0, hvh.s1⟩
  have hn1 : 1 ≤ g.nons := hv.n1
  have hm1 : 1 ≤ h.nons := hvh.n1
  have hrl : g.rules.length ≤ 32 := hv.len
  have hrl2 : h.rules.length ≤ 32 := hvh.len
  have hsn : sumN [g, h] = g.nons + h.nons := by simp [sumN]
  obtain ⟨R, hR⟩ : ∃ R, R = (concatG g h).rules := ⟨_, rfl⟩
  have hcg : concatG g h = ⟨g.terms, g.nons + h.nons + 1, g.nons + h.nons, R⟩ := by rw [hR]; rfl
  rw [hcg] at hck2
  rw [← hR] at hjr ⊢
  clear hR hcg hv2
  obtain ⟨gt, gn, gs, rs⟩ := g
  obtain ⟨ht, hn, ks, rs2⟩ := h
  dsimp only at *
  have hte' := hte.symm
  clear hte
  subst hte'
  have hnn : 2 ≤ gn + hn := by omega
  generalize hN : gn + hn = N at *
  have hN10 : N + 1 ≤ 10 := hn10
  have hN1 : 2 ≤ N := hnn
  have hwr : IntKind.i64.wrap (gn + ks) = gn + ks := IntWalk.i64_in _ (by omega)
  have hI1 : Hid (I64 gs) := Lib.hid hb64.2.2
  have hI2 : Hid (I64 (gn + ks)) := Lib.hid (by unfold I64; omega)
  have hIN : Hid (I64 N) := Lib.hid (by unfold I64; omega)
  have HJ := Lib.hid hjr
  have HCk := Lib.hid hck
  have HCh := Lib.hid hckh
  have HC2 := Lib.hid hck2
  have H64 := Lib.hid hb64
  have H64h := Lib.hid hb64h
  have HSn := Lib.hid hsn
  obtain ⟨w1, hw1⟩ : ∃ w1 : World, w1 = ((w.alloc (.cells #[.int .i64 gt, .int .i64 gn, .int .i64 gs, .slice A rs.length c] 25)).alloc (.cells #[.int .i64 gt, .int .i64 hn, .int .i64 ks, .slice B rs2.length d] 25)).alloc (.cells #[.int .i64 0, .int .i64 0, .int .i64 0, .slice none 0 0] 25) := ⟨_, rfl⟩
  have HW1 := Lib.hid hw1
  have hb1 : Below w.heap.size w w1 := by rw [hw1]; exact (((Below.refl _ _).alloc (Nat.le_refl _) _).alloc (by simp) _).alloc (by simp; omega) _
  have HG1 : Hid (Blk' w1 w.heap.size 25 #[.int .i64 gt, .int .i64 gn, .int .i64 gs, .slice A rs.length c]) := Lib.hid (by rw [hw1]; exact ((Blk'.new w _ _).alloc _).alloc _)
  have HH1 : Hid (Blk' w1 (w.heap.size + 1) 25 #[.int .i64 gt, .int .i64 hn, .int .i64 ks, .slice B rs2.length d]) := Lib.hid (by rw [hw1]; exact (Blk'.new' (g := w.heap.size + 1) _ _ _ (by simp)).alloc _)
  have HR1 : Hid (Blk' w1 (w.heap.size + 1 + 1) 25 #[.int .i64 0, .int .i64 0, .int .i64 0, .slice none 0 0]) := Lib.hid (by rw [hw1]; exact Blk'.new' _ _ _ (by simp))
  have HB1 := Lib.hid hb1
  have HA1 := Lib.hid (hA.belowB hb1 hS)
  have HBB1 := Lib.hid (hB.belowB hb1 hS)
  have HS := Lib.hid hS
  have a0 : w1.cell? ⟨w.heap.size, 0, none⟩ = some (.int .i64 gt) := HG1.out.cell 0
  have a1 : w1.cell? ⟨w.heap.size, 1, none⟩ = some (.int .i64 gn) := HG1.out.cell 1
  have a2 : w1.cell? ⟨w.heap.size, 2, none⟩ = some (.int .i64 gs) := HG1.out.cell 2
  have a3 : w1.cell? ⟨w.heap.size, 3, none⟩ = some (.slice A rs.length c) := HG1.out.cell 3
  have h0 : w1.cell? ⟨w.heap.size + 1, 0, none⟩ = some (.int .i64 gt) := HH1.out.cell 0
  have h1 : w1.cell? ⟨w.heap.size + 1, 1, none⟩ = some (.int .i64 hn) := HH1.out.cell 1
  have h2 : w1.cell? ⟨w.heap.size + 1, 2, none⟩ = some (.int .i64 ks) := HH1.out.cell 2
  have h3 : w1.cell? ⟨w.heap.size + 1, 3, none⟩ = some (.slice B rs2.length d) := HH1.out.cell 3
  have zG : w.heap.size < w1.heap.size := HG1.out.lt
  have zH : w.heap.size + 1 < w1.heap.size := HH1.out.lt
  have HE1 := Lib.hid (els_gram2 (g := ⟨gt, gn, gs, rs⟩) (h := ⟨gt, hn, ks, rs2⟩) 25 HA1.out hlc hc H64.out HBB1.out hld hd H64h.out)
  have hba : Below w1.heap.size w1 (w1.alloc (.cells #[.int .i64 gt, .int .i64 gn, .int .i64 gs, .slice A rs.length c, .int .i64 gt, .int .i64 hn, .int .i64 ks, .slice B rs2.length d] 25)) := (Below.refl _ _).alloc (Nat.le_refl _) _
  have HBa := Lib.hid hba
  clear hw1 hb1 hA hB hck hckh hck2 hv hvh hb64 hb64h hjr hsn hS hba hN hn10
  go_enter Tryd.func52, Tryd.ntmps52
  go_upto_region 1 with (fail)
  rw [← HW1.out]
  go_wp2_with fail
  refine (ccheck_any [⟨gt, gn, gs, rs⟩, ⟨gt, hn, ks, rs2⟩] (some ⟨w1.heap.size, 0, none⟩) 2 (fun b => S b ∨ b = w1.heap.size) _ (by simp) (fun g hg => by simp at hg; rcases hg with rfl | rfl; exact HCk.out; exact HCh.out) HE1.out (fun b hb => by rcases hb with hb | hb; (have := HS.out b hb; have := HB1.out.size; simp; omega); (subst hb; simp))).mono ?_
  rintro e w2 ⟨rfl, hb2⟩
  have HB12 := Lib.hid (bthen HBa.out hb2 HBa.out.size)
  have HB2 := Lib.hid (bthen HB1.out HB12.out HB1.out.size)
  have HG2 := Lib.hid (HG1.out.below HB12.out HG1.out.lt)
  have HH2 := Lib.hid (HH1.out.below HB12.out HH1.out.lt)
  have HR2 := Lib.hid (HR1.out.below HB12.out HR1.out.lt)
  have HA2 := Lib.hid (HA1.out.belowB HB12.out (fun b hb => by have := HS.out b hb; have := HB1.out.size; omega))
  have HBB2 := Lib.hid (HBB1.out.belowB HB12.out (fun b hb => by have := HS.out b hb; have := HB1.out.size; omega))
  have b0 : w2.cell? ⟨w.heap.size, 0, none⟩ = some (.int .i64 gt) := HG2.out.cell 0
  have b1 : w2.cell? ⟨w.heap.size, 1, none⟩ = some (.int .i64 gn) := HG2.out.cell 1
  have b2 : w2.cell? ⟨w.heap.size, 2, none⟩ = some (.int .i64 gs) := HG2.out.cell 2
  have b3 : w2.cell? ⟨w.heap.size, 3, none⟩ = some (.slice A rs.length c) := HG2.out.cell 3
  have k0 : w2.cell? ⟨w.heap.size + 1, 0, none⟩ = some (.int .i64 gt) := HH2.out.cell 0
  have k1 : w2.cell? ⟨w.heap.size + 1, 1, none⟩ = some (.int .i64 hn) := HH2.out.cell 1
  have k2 : w2.cell? ⟨w.heap.size + 1, 2, none⟩ = some (.int .i64 ks) := HH2.out.cell 2
  have k3 : w2.cell? ⟨w.heap.size + 1, 3, none⟩ = some (.slice B rs2.length d) := HH2.out.cell 3
  have zG2 : w.heap.size < w2.heap.size := HG2.out.lt
  have zH2 : w.heap.size + 1 < w2.heap.size := HH2.out.lt
  have HE2 := Lib.hid (els_gram2 (g := ⟨gt, gn, gs, rs⟩) (h := ⟨gt, hn, ks, rs2⟩) 25 HA2.out hlc hc H64.out HBB2.out hld hd H64h.out)
  have hba2 : Below w2.heap.size w2 (w2.alloc (.cells #[.int .i64 gt, .int .i64 gn, .int .i64 gs, .slice A rs.length c, .int .i64 gt, .int .i64 hn, .int .i64 ks, .slice B rs2.length d] 25)) := (Below.refl _ _).alloc (Nat.le_refl _) _
  have HBa2 := Lib.hid hba2
  clear a0 a1 a2 a3 h0 h1 h2 h3 hb2 hba2
  go_wp2_with fail
  refine (join_any [⟨gt, gn, gs, rs⟩, ⟨gt, hn, ks, rs2⟩] 1 ⟨gt, gn, gs, rs⟩ (some ⟨w2.heap.size, 0, none⟩) 2 (fun b => S b ∨ b = w2.heap.size) _ (by simp) rfl (fun g hg => by simp at hg; rcases hg with rfl | rfl; exact HCk.out; exact HCh.out) (by omega) (by rw [HSn.out]; omega) HE2.out (fun b hb => by rcases hb with hb | hb; (have := HS.out b hb; have := HB2.out.size; simp; omega); (subst hb; simp))).mono ?_
  rintro e w3 ⟨v3, rfl, hown3, hb3⟩
  rw [HSn.out]
  dsimp only
  obtain ⟨A3, c3, rfl, hc31, hc32, _⟩ := hown3.form
  have HB23 := Lib.hid (bthen HBa2.out hb3 HBa2.out.size)
  have HB3 := Lib.hid (bthen HB2.out HB23.out HB2.out.size)
  have HG3 := Lib.hid (HG2.out.below HB23.out HG2.out.lt)
  have HH3 := Lib.hid (HH2.out.below HB23.out HH2.out.lt)
  have HR3 := Lib.hid (HR2.out.below HB23.out HR2.out.lt)
  have hJ100 : (joinR 0 [(⟨gt, gn, gs, rs⟩ : Gram), ⟨gt, hn, ks, rs2⟩]).length ≤ 64 := by simp [joinR]; omega
  obtain ⟨J, hJ⟩ : ∃ J, J = joinR 0 [(⟨gt, gn, gs, rs⟩ : Gram), ⟨gt, hn, ks, rs2⟩] := ⟨_, rfl⟩
  rw [← hJ] at HJ hown3 hc31 hJ100 ⊢
  have HJl := Lib.hid hJ100
  have hown3' : Own w3 (fun _ => False) w2.heap.size 68 (.slice A3 J.length c3) J := hown3.base (by simp)
  have HO3 := Lib.hid hown3'
  have HT3 := Lib.hid hown3'.toX
  obtain ⟨w4, hw4⟩ : ∃ w4 : World, w4 = w3.alloc (.cells #[.int .i64 gt, .int .i64 (N + 1), .int .i64 N, .slice A3 J.length c3] 25) := ⟨_, rfl⟩
  have HW4 := Lib.hid hw4
  have hb4 : Below w3.heap.size w3 w4 := by rw [hw4]; exact (Below.refl _ _).alloc (Nat.le_refl _) _
  have HB4 := Lib.hid hb4
  have HX4 : Hid (Blk' w4 w3.heap.size 25 #[.int .i64 gt, .int .i64 (N + 1), .int .i64 N, .slice A3 J.length c3]) := Lib.hid (by rw [hw4]; exact Blk'.new _ _ _)
  have HT4 := Lib.hid (hown3'.toX.below hb4 (Nat.le_refl _))
  have HR4 := Lib.hid (HR3.out.below hb4 HR3.out.lt)
  have hG4 := HG3.out.below hb4 HG3.out.lt
  have hH4 := HH3.out.below hb4 HH3.out.lt
  have x1 : w4.cell? ⟨w.heap.size, 1, none⟩ = some (.int .i64 gn) := hG4.cell 1
  have x2 : w4.cell? ⟨w.heap.size, 2, none⟩ = some (.int .i64 gs) := hG4.cell 2
  have y2 : w4.cell? ⟨w.heap.size + 1, 2, none⟩ = some (.int .i64 ks) := hH4.cell 2
  have zX : w3.heap.size < w4.heap.size := HX4.out.lt
  have zG4 : w.heap.size < w4.heap.size := hG4.lt
  have zH4 : w.heap.size + 1 < w4.heap.size := hH4.lt
  have z23 : w2.heap.size ≤ w3.heap.size := HB23.out.size
  have z2 : w.heap.size + 1 + 1 < w2.heap.size := HR2.out.lt
  clear b0 b1 b2 b3 k0 k1 k2 k3 hb3 hw4 hb4 hG4 hH4 hown3 hown3' hJ hJ100
  go_upto_region 7 with (fail)
  rw [← HW4.out]
  go_wp2_with fail
  refine wp_region_noPanic ?_
  refine wp_region_held_drew (S := (fun w' => w'.cell? ⟨w.heap.size, 2, none⟩ = some (.int .i64 gs) ∧ w'.cell? ⟨w.heap.size, 1, none⟩ = some (.int .i64 gn) ∧ w'.cell? ⟨w.heap.size + 1, 2, none⟩ = some (.int .i64 ks))) (by kernel_rfl) ?hg (fun hHeld => ?bg)
  case hg => ((try dsimp only); go_keep)
  refine take_run (i := 0) (v := ?vg0) rfl (by kernel_rfl) (by kernel_rfl) (by kernel_rfl) (fun _ _ _ h => h) (by rfl) ?yg0 (by assumption) ?rg0
  case yg0 => (intro w hSw; (try dsimp only at hSw); go_simp; try with_reducible rfl)
  try simp only [Act.put, List.setIfInBounds_toArray, List.set_cons_zero, List.set_cons_succ]
  refine take_run (i := 1) (v := ?vg1) rfl (by kernel_rfl) (by kernel_rfl) (by kernel_rfl) (fun _ _ _ h => h) (by rfl) ?yg1 (by assumption) ?rg1
  case yg1 => (intro w hSw; (try dsimp only at hSw); go_simp; try with_reducible rfl)
  try simp only [Act.put, List.setIfInBounds_toArray, List.set_cons_zero, List.set_cons_succ]
  refine take_run (i := 2) (v := ?vg2) rfl (by kernel_rfl) (by kernel_rfl) (by kernel_rfl) (fun _ _ _ h => h) (by rfl) ?yg2 (by assumption) ?rg2
  case yg2 => (intro w hSw; (try dsimp only at hSw); go_simp; try with_reducible rfl)
  try simp only [Act.put, List.setIfInBounds_toArray, List.set_cons_zero, List.set_cons_succ]
  refine take_run (i := 4) (v := ?vg4) rfl (by kernel_rfl) (by kernel_rfl) (by kernel_rfl) (fun _ _ _ h => h) (by rfl) ?yg4 (by assumption) ?rg4
  case yg4 => (intro w hSw; (try dsimp only at hSw); go_simp; try with_reducible rfl)
  try simp only [Act.put, List.setIfInBounds_toArray, List.set_cons_zero, List.set_cons_succ]
  refine take_run (i := 5) (v := ?vg5) rfl (by kernel_rfl) (by kernel_rfl) (by kernel_rfl) (fun _ _ _ h => h) (by rfl) ?yg5 (by assumption) ?rg5
  case yg5 => (intro w hSw; (try dsimp only at hSw); go_simp; try with_reducible rfl)
  try simp only [Act.put, List.setIfInBounds_toArray, List.set_cons_zero, List.set_cons_succ]
  refine take_run (i := 6) (v := ?vg6) rfl (by kernel_rfl) (by kernel_rfl) (by kernel_rfl) (fun _ _ _ h => h) (by rfl) ?yg6 (by assumption) ?rg6
  case yg6 => (intro w hSw; (try dsimp only at hSw); go_simp; try with_reducible rfl)
  try simp only [Act.put, List.setIfInBounds_toArray, List.set_cons_zero, List.set_cons_succ]
  refine take_run (i := 7) (v := ?vg7) rfl (by kernel_rfl) (by kernel_rfl) (by kernel_rfl) (fun _ _ _ h => h) (by rfl) ?yg7 (by assumption) ?rg7
  case yg7 => (intro w hSw; (try dsimp only at hSw); go_simp; try with_reducible rfl)
  try simp only [Act.put, List.setIfInBounds_toArray, List.set_cons_zero, List.set_cons_succ]
  refine take_run (i := 8) (v := ?vg8) rfl (by kernel_rfl) (by kernel_rfl) (by kernel_rfl) (fun _ _ _ h => h) (by rfl) ?yg8 (by assumption) ?rg8
  case yg8 => (intro w hSw; (try dsimp only at hSw); go_simp; try with_reducible rfl)
  try simp only [Act.put, List.setIfInBounds_toArray, List.set_cons_zero, List.set_cons_succ]
  refine take_run (i := 12) (v := ?vg12) rfl (by kernel_rfl) (by kernel_rfl) (by kernel_rfl) (fun _ _ _ h => h) (by rfl) ?yg12 (by assumption) ?rg12
  case yg12 => (intro w hSw; (try dsimp only at hSw); go_simp; try with_reducible rfl)
  try simp only [Act.put, List.setIfInBounds_toArray, List.set_cons_zero, List.set_cons_succ]
  refine take_call (i := 3) rfl (by kernel_rfl) (by rfl) (fun Kq hK => ?_)
  go_simp
  go_at_call 47
  refine (n_any gs _).mono ?_
  rintro e p5 ⟨rfl, hb_p5⟩
  have HB_p5 : Hid (Below w4.heap.size w4 p5) := Lib.hid (bundrew hb_p5)
  have n0_p5 := (HB_p5.out.cell (p := ⟨w.heap.size, 2, none⟩) zG4).trans x2
  have n1_p5 := (HB_p5.out.cell (p := ⟨w.heap.size, 1, none⟩) zG4).trans x1
  have n2_p5 := (HB_p5.out.cell (p := ⟨w.heap.size + 1, 2, none⟩) zH4).trans y2
  have zz_p5 : w4.heap.size ≤ p5.heap.size := HB_p5.out.size
  clear hb_p5
  refine hK.out _ _ ?hg3 (fun hHeld => ?rg3)
  case hg3 => ((try dsimp only); go_keep)
  clear hK Kq
  try simp only [Act.put, List.setIfInBounds_toArray, List.set_cons_zero, List.set_cons_succ]
  refine take_call (i := 9) rfl (by kernel_rfl) (by rfl) (fun Kq hK => ?_)
  go_simp
  go_at_call 47
  refine (n_any (gn + ks) _).mono ?_
  rintro e p6 ⟨rfl, hb_p6⟩
  have HB_p6 : Hid (Below w4.heap.size w4 p6) := Lib.hid (bthen HB_p5.out hb_p6 HB_p5.out.size)
  have n0_p6 := (HB_p6.out.cell (p := ⟨w.heap.size, 2, none⟩) zG4).trans x2
  have n1_p6 := (HB_p6.out.cell (p := ⟨w.heap.size, 1, none⟩) zG4).trans x1
  have n2_p6 := (HB_p6.out.cell (p := ⟨w.heap.size + 1, 2, none⟩) zH4).trans y2
  have zz_p6 : w4.heap.size ≤ p6.heap.size := HB_p6.out.size
  clear hb_p6
  refine hK.out _ _ ?hg9 (fun hHeld => ?rg9)
  case hg9 => ((try dsimp only); go_keep)
  clear hK Kq
  try simp only [Act.put, List.setIfInBounds_toArray, List.set_cons_zero, List.set_cons_succ]
  refine take_call (i := 10) rfl (by kernel_rfl) (by rfl) (fun Kq hK => ?_)
  go_simp
  go_at_call 53
  refine (concat1_any ⟨false, gs⟩ ⟨false, gn + ks⟩ _ hI1.out hI2.out).mono ?_
  rintro e w8 ⟨b1, b2, rfl, hc8, hE8, hp1, hp2, hp3, hp4, hb_w8⟩
  have HB_w8 : Hid (Below w4.heap.size w4 w8) := Lib.hid (bthen HB_p6.out hb_w8 HB_p6.out.size)
  have n0_w8 := (HB_w8.out.cell (p := ⟨w.heap.size, 2, none⟩) zG4).trans x2
  have n1_w8 := (HB_w8.out.cell (p := ⟨w.heap.size, 1, none⟩) zG4).trans x1
  have n2_w8 := (HB_w8.out.cell (p := ⟨w.heap.size + 1, 2, none⟩) zH4).trans y2
  have zz_w8 : w4.heap.size ≤ w8.heap.size := HB_w8.out.size
  have HE8 := Lib.hid hE8
  have HP8 : Hid (w4.heap.size ≤ b2 ∧ b2 < w8.heap.size) := Lib.hid (by omega)
  clear hb_w8 hE8 hp1 hp3 hp4
  refine hK.out _ _ ?hg10 (fun hHeld => ?rg10)
  case hg10 => ((try dsimp only); go_keep)
  clear hK Kq
  try simp only [Act.put, List.setIfInBounds_toArray, List.set_cons_zero, List.set_cons_succ]
  refine take_run (i := 11) (v := ?vg11) rfl (by kernel_rfl) (by kernel_rfl) (by kernel_rfl) (fun _ _ _ h => h) (by rfl) ?yg11 (by assumption) ?rg11
  case yg11 => (intro w hSw; (try dsimp only at hSw); go_simp; try with_reducible rfl)
  try simp only [Act.put, List.setIfInBounds_toArray, List.set_cons_zero, List.set_cons_succ]
  refine wpAnyH_done (by kernel_rfl) ?_ _
  refine NoPanic.normal ?_
  have HX8 := Lib.hid (HX4.out.below HB_w8.out HX4.out.lt)
  have HR8 := Lib.hid (HR4.out.below HB_w8.out HR4.out.lt)
  have zX8 : w3.heap.size < w8.heap.size := HX8.out.lt
  have HB8 : Hid (Below w.heap.size w w8) := Lib.hid ((HB3.out.trans (HB4.out.mono (by have := HB3.out.size; omega))).trans (HB_w8.out.mono (by have := HB3.out.size; have := HB4.out.size; omega)))
  have HO8 : Hid (OwnX w8 (fun b => OwnT (fun _ => False) w2.heap.size (.slice A3 J.length c3) w3 b ∨ b = b2) w2.heap.size 68 (.slice A3 J.length c3) J) := Lib.hid ((HT4.out.below HB_w8.out (Nat.le_refl _)).mono (fun b hb => .inl hb) (fun k hk hT => by
    have h1 := HO3.out.block k hk
    rcases hT with hT | hT
    · exact hT.2.1 hk
    · have := HP8.out.1; omega) (fun b hb => by
    rcases hb with hb | hb
    · have := hb.2.2; omega
    · have := HP8.out.2; omega))
  clear n0_w8 n1_w8 n2_w8
  go_wp2_with fail
  go_loopw [50] (fun i wr => (i = .int .i64 0 ∧ w8 = wr) ∨ (i = .int .i64 1 ∧ TwF gt N R w3.heap.size w2.heap.size w wr)) (fun i _ => 1 - (intOf i).toNat)
  case atStart => exact .inl ⟨rfl, rfl⟩
  case round =>
    rcases hrel with ⟨rfl, hwe⟩ | ⟨rfl, A9, c9, hc91, hc92, hX, hown, hR, hb⟩
    · subst hwe
      have e2 : w8.cell? ⟨w3.heap.size, 2, none⟩ = some (.int .i64 N) := HX8.out.cell 2
      have e3 : w8.cell? ⟨w3.heap.size, 3, none⟩ = some (.slice A3 J.length c3) := HX8.out.cell 3
      have hcap1 : (J.length + 1) * 32 ≤ 140737488355328 := by have := HJl.out; omega
      have hcap2 : J.length + 1 ≤ 9223372036854775807 := by have := HJl.out; omega
      have hbas : w2.heap.size ≤ (w8.alloc (.cells #[.int .i64 N, .slice (some ⟨b2, 0, none⟩) 2 2] 68)).heap.size := by simp; omega
      have HBas := Lib.hid hbas
      have HOa := Lib.hid (HO8.out.below (B := w8.heap.size) ((Below.refl _ _).alloc (Nat.le_refl _) (.cells #[.int .i64 N, .slice (some ⟨b2, 0, none⟩) 2 2] 68)) (Nat.le_refl _))
      have HRd : Hid (Dat.rd (w8.alloc (.cells #[.int .i64 N, .slice (some ⟨b2, 0, none⟩) 2 2] 68)) (fun b => OwnT (fun _ => False) w2.heap.size (.slice A3 J.length c3) w3 b ∨ b = b2) (⟨N, [⟨false, gs⟩, ⟨false, gn + ks⟩]⟩ : Rule) [.int .i64 N, .slice (some ⟨b2, 0, none⟩) 2 2]) := Lib.hid ⟨_, rfl, hIN.out, Vl.of_slice rfl (by simp) (by omega) ((HE8.out.below ((Below.refl _ _).alloc (Nat.le_refl _) _)).keep (fun _ _ _ => rfl) (fun b hb => .inr hb))⟩
      have zq1 : w3.heap.size < w8.heap.size + 1 := by omega
      clear hbas
      go_wp2_with ((at_builtin); (refine wpList_ownX1 _ rfl _ _ elemRule rfl rfl HOa.out (⟨N, [⟨false, gs⟩, ⟨false, gn + ks⟩]⟩ : Rule) [.int .i64 N, .slice (some ⟨b2, 0, none⟩) 2 2] rfl (At.new _ _ _) HRd.out hcap1 hcap2 HBas.out ?_); (intro v' w9 hown9 hg9 hat9); (obtain ⟨A9, k9, hv9, hk91, hk92, _⟩ := hown9.form); (rw [snoc_len] at hv9); (subst hv9); (have hX9 := (HX8.out.alloc (.cells #[.int .i64 N, .slice (some ⟨b2, 0, none⟩) 2 2] 68)).grown hg9 (fun e => by have h9 := (HO3.out.block _ e.symm).2; omega)); (have m3 := hX9.cell 3); (have f3 := hX9.frozen 3); (have zX9 := hX9.lt); (have H9 := Lib.hid (And.intro hown9 (And.intro hg9 (And.intro hX9 (And.intro hat9 (And.intro hk91 hk92)))))); (clear hown9 hg9 hat9 hX9 hk91 hk92); (simp at m3))
      go_roundw
      case rel =>
        obtain ⟨hown9, hg9, hX9, hat9, hk91, hk92⟩ := H9.out
        have hRl : R.length = J.length + 1 := by rw [← HJ.out]; simp
        rw [HJ.out] at hk91 hown9
        have hkk : Kept (fun b => (Value.slice A3 J.length c3).ownBlock = some b ∨ b = w3.heap.size) w8 (w9.setCell ⟨w3.heap.size, 3, none⟩ (.slice A9 (J.length + 1) k9)) := (((Kept.refl _ w8).alloc _).grown hg9 (fun k hk => .inl (.inl hk))).setCell (p := ⟨w3.heap.size, 3, none⟩) (.inl (.inr rfl)) _
        refine .inr ⟨by go_num, A9, k9, hk91, hk92, ?_, ?_, HR8.out.kept hkk (fun h => by rcases h with h | h; (have := (HO3.out.block _ h).1; omega); omega), HB8.out.trans (hkk.to_below (B := w.heap.size) (fun b hb => by rcases hb with h | h; (have := (HO3.out.block _ h).1; omega); omega) HB8.out.size)⟩
        · rw [hRl]; exact hX9.set_ 3 _
        · rw [hRl]
          have h := hown9.setCell (p := ⟨w3.heap.size, 3, none⟩) (fun e => by
            rcases hat9 with q | q
            · rw [q] at e; have h5 := (HO3.out.block _ e).2; dsimp only at h5; omega
            · rw [q] at e; injection e with e; simp at e; omega) (fun hT => by
            rcases hT with hT | hT
            · have := hT.2.2; dsimp only at this; omega
            · dsimp only at hT; have := HP8.out.1; omega) (.slice A9 (J.length + 1) k9)
          exact h.own (fun b hb => .inr (by rcases hb with hb | hb; (exact hb.1.elim (fun h => h.elim) id); (have := HP8.out.1; omega)))
      case measure => simp [intOf]
    · obtain ⟨wE, hwE⟩ : ∃ wE : World, wE = wr := ⟨_, rfl⟩
      subst hwE
      have HXE := Lib.hid hX
      have HOE := Lib.hid hown
      have HRE := Lib.hid hR
      have HBE := Lib.hid hb
      have HC9 := Lib.hid (And.intro hc91 hc92)
      have e0 : wE.cell? ⟨w3.heap.size, 0, none⟩ = some (.int .i64 gt) := hX.cell 0
      have e1 : wE.cell? ⟨w3.heap.size, 1, none⟩ = some (.int .i64 (N + 1)) := hX.cell 1
      have e2 : wE.cell? ⟨w3.heap.size, 2, none⟩ = some (.int .i64 N) := hX.cell 2
      have e3 : wE.cell? ⟨w3.heap.size, 3, none⟩ = some (.slice A9 R.length c9) := hX.cell 3
      have zXE : w3.heap.size < wE.heap.size := hX.lt
      clear hX hown hR hb
      go_wp2_with fail
      refine (finish_any ⟨gt, N + 1, N, R⟩ A9 c9 _ wE HC2.out HC9.out.1 HC9.out.2 HOE.out.vl.els.2.2.2 (fun b hb => hb.2)).mono ?_
      rintro e w10 ⟨rfl, hb10⟩
      have HB10 := Lib.hid (bthen HBE.out hb10 HBE.out.size)
      have HR10 := Lib.hid (HRE.out.below hb10 HRE.out.lt)
      have HO10 := Lib.hid (HOE.out.below hb10 (Nat.le_refl _))
      clear e0 e1 e2 e3 hb10
      have r0 := HR10.out.frozen 0
      have r1 := HR10.out.frozen 1
      have r2 := HR10.out.frozen 2
      have r3 := HR10.out.frozen 3
      have q0 : w10.cell? ⟨w.heap.size + 1 + 1, 0, none⟩ = some (.int .i64 0) := HR10.out.cell 0
      have q1 : w10.cell? ⟨w.heap.size + 1 + 1, 1, none⟩ = some (.int .i64 0) := HR10.out.cell 1
      have q2 : w10.cell? ⟨w.heap.size + 1 + 1, 2, none⟩ = some (.int .i64 0) := HR10.out.cell 2
      have q3 : w10.cell? ⟨w.heap.size + 1 + 1, 3, none⟩ = some (.slice none 0 0) := HR10.out.cell 3
      have zR : w.heap.size + 1 + 1 < w10.heap.size := HR10.out.lt
      go_wp2_with fail
      generalize hwF : World.setCell _ _ _ = wF
      obtain ⟨hRF, kF⟩ := set4 HR10.out (.int .i64 gt) (.int .i64 (N + 1)) (.int .i64 N) (.slice A9 R.length c9)
      rw [hwF] at hRF kF
      have u0 : wF.cell? ⟨w.heap.size + 1 + 1, 0, none⟩ = some (.int .i64 gt) := hRF.cell 0
      have u1 : wF.cell? ⟨w.heap.size + 1 + 1, 1, none⟩ = some (.int .i64 (N + 1)) := hRF.cell 1
      have u2 : wF.cell? ⟨w.heap.size + 1 + 1, 2, none⟩ = some (.int .i64 N) := hRF.cell 2
      have u3 : wF.cell? ⟨w.heap.size + 1 + 1, 3, none⟩ = some (.slice A9 R.length c9) := hRF.cell 3
      clear hwF
      refine bodyPost_ret (v := .tuple #[.agg #[.int .i64 gt, .int .i64 (N + 1), .int .i64 N, .slice A9 R.length c9], .int .i64 0]) (by simp [results, Tryd.results52, go_sem, u0, u1, u2, u3]) rfl ⟨A9, c9, rfl, HC9.out.1, HC9.out.2, ?_, HB10.out.trans (kF.to_below (B := w.heap.size) (fun b (hb : b = w.heap.size + 1 + 1) => by omega) HB10.out.size)⟩
      exact ((HO10.out.kept kF (fun b (hb : b = w.heap.size + 1 + 1) h => h.elim id (fun h => by omega))).base (base' := w.heap.size) (by omega)).vl.els.2.2.2.keep (fun _ _ _ => rfl) (fun b hb => ⟨by rcases hb.1 with h | h; exact h.elim; exact h, hb.2⟩)
set_option maxRecDepth 100000 in
set_option maxHeartbeats 8000000 in
theorem concat_any (g h : Gram) (A B : Option Addr) (c d : Nat) (S : Nat → Prop) (w : World) (hck : checkI g = 0) (hckh : checkI h = 0) (hte : h.terms = g.terms) (hck2 : checkI (concatG g h) = 0) (hlc : g.rules.length ≤ c) (hc : c ≤ 9223372036854775807) (hA : Els w S g.rules A) (hld : h.rules.length ≤ d) (hd : d ≤ 9223372036854775807) (hB : Els w S h.rules B) (hS : ∀ b, S b → b < w.heap.size) :
    Calls Tryd.prog 15 #[.agg #[.int .i64 g.terms, .int .i64 g.nons, .int .i64 g.start, .slice A g.rules.length c], .agg #[.int .i64 h.terms, .int .i64 h.nons, .int .i64 h.start, .slice B h.rules.length d]] w fun e w' => ∃ A' c', e = .returned (.tuple #[.agg #[.int .i64 g.terms, .int .i64 (g.nons + h.nons + 1), .int .i64 (g.nons + h.nons), .slice A' (concatG g h).rules.length c'], .int .i64 0]) ∧ (concatG g h).rules.length ≤ c' ∧ c' ≤ 9223372036854775807 ∧ Els w' (fun b => w.heap.size ≤ b ∧ b < w'.heap.size) (concatG g h).rules A' ∧ Below w.heap.size w w' := by
  obtain ⟨gg, hgg⟩ : ∃ gg, gg = g := ⟨_, rfl⟩
  obtain ⟨hh, hhh⟩ : ∃ hh, hh = h := ⟨_, rfl⟩
  have HGG := Lib.hid hgg
  have HHH := Lib.hid hhh
  obtain ⟨R, hR⟩ : ∃ R, R = (concatG g h).rules := ⟨_, rfl⟩
  have HRe := Lib.hid hR
  rw [← hR]
  obtain ⟨gt, gn, gs, rs⟩ := g
  obtain ⟨ht, hn, ks, rs2⟩ := h
  dsimp only at hte hlc hA hld hB ⊢
  have hte' := hte.symm
  clear hte
  subst hte'
  have HCk := Lib.hid hck
  have HCh := Lib.hid hckh
  have HC2 := Lib.hid hck2
  obtain ⟨w1, hw1⟩ : ∃ w1 : World, w1 = ((w.alloc (.cells #[.int .i64 gt, .int .i64 gn, .int .i64 gs, .slice A rs.length c] 25)).alloc (.cells #[.int .i64 gt, .int .i64 hn, .int .i64 ks, .slice B rs2.length d] 25)).alloc (.cells #[.int .i64 0, .int .i64 0, .int .i64 0, .slice none 0 0] 25) := ⟨_, rfl⟩
  have HW1 := Lib.hid hw1
  have hb1 : Below w.heap.size w w1 := by rw [hw1]; exact (((Below.refl _ _).alloc (Nat.le_refl _) _).alloc (by simp) _).alloc (by simp; omega) _
  have HG1 : Hid (Blk' w1 w.heap.size 25 #[.int .i64 gt, .int .i64 gn, .int .i64 gs, .slice A rs.length c]) := Lib.hid (by rw [hw1]; exact ((Blk'.new w _ _).alloc _).alloc _)
  have HH1 : Hid (Blk' w1 (w.heap.size + 1) 25 #[.int .i64 gt, .int .i64 hn, .int .i64 ks, .slice B rs2.length d]) := Lib.hid (by rw [hw1]; exact (Blk'.new' (g := w.heap.size + 1) _ _ _ (by simp)).alloc _)
  have HR1 : Hid (Blk' w1 (w.heap.size + 1 + 1) 25 #[.int .i64 0, .int .i64 0, .int .i64 0, .slice none 0 0]) := Lib.hid (by rw [hw1]; exact Blk'.new' _ _ _ (by simp))
  have HB1 := Lib.hid hb1
  have HA1 := Lib.hid (hA.belowB hb1 hS)
  have HBB1 := Lib.hid (hB.belowB hb1 hS)
  have HS : Hid (∀ b, S b → b < w1.heap.size) := Lib.hid (fun b hb => by have := hS b hb; have := hb1.size; omega)
  have a0 : w1.cell? ⟨w.heap.size, 0, none⟩ = some (.int .i64 gt) := HG1.out.cell 0
  have a1 : w1.cell? ⟨w.heap.size, 1, none⟩ = some (.int .i64 gn) := HG1.out.cell 1
  have a2 : w1.cell? ⟨w.heap.size, 2, none⟩ = some (.int .i64 gs) := HG1.out.cell 2
  have a3 : w1.cell? ⟨w.heap.size, 3, none⟩ = some (.slice A rs.length c) := HG1.out.cell 3
  have h0 : w1.cell? ⟨w.heap.size + 1, 0, none⟩ = some (.int .i64 gt) := HH1.out.cell 0
  have h1 : w1.cell? ⟨w.heap.size + 1, 1, none⟩ = some (.int .i64 hn) := HH1.out.cell 1
  have h2 : w1.cell? ⟨w.heap.size + 1, 2, none⟩ = some (.int .i64 ks) := HH1.out.cell 2
  have h3 : w1.cell? ⟨w.heap.size + 1, 3, none⟩ = some (.slice B rs2.length d) := HH1.out.cell 3
  have zG : w.heap.size < w1.heap.size := HG1.out.lt
  have zH : w.heap.size + 1 < w1.heap.size := HH1.out.lt
  clear hw1 hb1 hA hB hck hckh hck2 hS hR hgg hhh
  go_enter Tryd.func15, Tryd.ntmps15
  go_upto_region 1 with (fail)
  rw [← HW1.out]
  go_wp2_with fail
  refine (two_any ⟨gt, gn, gs, rs⟩ ⟨gt, hn, ks, rs2⟩ A B c d S w1 HCk.out HCh.out rfl HC2.out hlc hc HA1.out hld hd HBB1.out HS.out).mono ?_
  rintro e w2 ⟨A9, c9, rfl, hl9, hc9, hE9, hb2⟩
  rw [← HRe.out] at hl9 hE9 ⊢
  have HB2 := Lib.hid (bthen HB1.out hb2 HB1.out.size)
  have HR2 := Lib.hid (HR1.out.below hb2 HR1.out.lt)
  have HE9 := Lib.hid hE9
  have z1 : w.heap.size + 1 + 1 < w1.heap.size := HR1.out.lt
  clear a0 a1 a2 a3 h0 h1 h2 h3 hb2 hE9
  have r0 := HR2.out.frozen 0
  have r1 := HR2.out.frozen 1
  have r2 := HR2.out.frozen 2
  have r3 := HR2.out.frozen 3
  have q0 : w2.cell? ⟨w.heap.size + 1 + 1, 0, none⟩ = some (.int .i64 0) := HR2.out.cell 0
  have q1 : w2.cell? ⟨w.heap.size + 1 + 1, 1, none⟩ = some (.int .i64 0) := HR2.out.cell 1
  have q2 : w2.cell? ⟨w.heap.size + 1 + 1, 2, none⟩ = some (.int .i64 0) := HR2.out.cell 2
  have q3 : w2.cell? ⟨w.heap.size + 1 + 1, 3, none⟩ = some (.slice none 0 0) := HR2.out.cell 3
  have zR : w.heap.size + 1 + 1 < w2.heap.size := HR2.out.lt
  go_wp2_with fail
  generalize hwF : World.setCell _ _ _ = wF
  obtain ⟨hRF, kF⟩ := set4 HR2.out (.int .i64 gt) (.int .i64 (gn + hn + 1)) (.int .i64 (gn + hn)) (.slice A9 R.length c9)
  rw [hwF] at hRF kF
  have u0 : wF.cell? ⟨w.heap.size + 1 + 1, 0, none⟩ = some (.int .i64 gt) := hRF.cell 0
  have u1 : wF.cell? ⟨w.heap.size + 1 + 1, 1, none⟩ = some (.int .i64 (gn + hn + 1)) := hRF.cell 1
  have u2 : wF.cell? ⟨w.heap.size + 1 + 1, 2, none⟩ = some (.int .i64 (gn + hn)) := hRF.cell 2
  have u3 : wF.cell? ⟨w.heap.size + 1 + 1, 3, none⟩ = some (.slice A9 R.length c9) := hRF.cell 3
  clear hwF
  refine bodyPost_ret (v := .tuple #[.agg #[.int .i64 gt, .int .i64 (gn + hn + 1), .int .i64 (gn + hn), .slice A9 R.length c9], .int .i64 0]) (by simp [results, Tryd.results15, go_sem, u0, u1, u2, u3]) rfl ⟨A9, c9, rfl, hl9, hc9, ?_, HB2.out.trans (kF.to_below (B := w.heap.size) (fun b (hb : b = w.heap.size + 1 + 1) => by omega) HB2.out.size)⟩
  exact HE9.out.keep (fun p hp hlt => kF.cell hlt (by show ¬ p.block = w.heap.size + 1 + 1; omega)) (fun b hb => ⟨by omega, Nat.lt_of_lt_of_le hb.2 kF.size⟩)
end Go.Proofs.YtpkfalhpkkponaaDoor
