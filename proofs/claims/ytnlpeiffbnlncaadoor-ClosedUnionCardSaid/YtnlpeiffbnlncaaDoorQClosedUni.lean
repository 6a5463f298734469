/- Contracts: closed.two with the rules of Union; closed.Union: its errors too. -/
import Derived.Test.YtnlpeiffbnlncaaDoorQClosedE
import Derived.Test.YtnlpeiffbnlncaaDoorQw1
import Derived.Test.YtnlpeiffbnlncaaDoorQp1
namespace Go.Proofs.YtnlpeiffbnlncaaDoor
open Go.RowKit
set_option linter.unusedVariables false

section
variable {P : Program} (w : World) {T : Nat → Prop} {base : Nat} {α : Type} [Dat α]
theorem wpList_ownX1 {ops : Array Oper} {rest : List Oper} {o : Oper} {a : Act} {Q : Exit → Act → World → Prop} (hgd : o.guard = none) (s xo : Operand) {t e : TypeId} {bytes : Nat} (hT : ElemT P α t e bytes)
    (ho : o.op = .call { callee := .builtin .append, args := #[s, xo], argTypes := #[t, t] })
    {v : Value} {xs : List α} (hs : a.eval s = v) (hown : OwnX w T base e v xs) (x : α) (cs : List Value) {g c : Nat} (hx : a.eval xo = .slice (some ⟨g, 0, none⟩) 1 c)
    (hat : At w g 0 cs) (hrd : Dat.rd w T x cs) (hlen : (xs.length + 1) * bytes ≤ 140737488355328) (hmax : xs.length + 1 ≤ 9223372036854775807) (hbase : base ≤ w.heap.size)
    (h : ∀ v' w', OwnX w' T base e v' (xs ++ [x]) → w.grownBy w' v.ownBlock → (v'.ownBlock = v.ownBlock ∨ v'.ownBlock = some w.heap.size) → wpList P ops Q rest (a.put o.dst v') w') : wpList P ops Q (o :: rest) a w :=
  wpList_plain hgd fun _ hK => by
    obtain ⟨v', w', hrun, h2, h3, h4⟩ := run_ownX1 (ty := o.type) (c := c) hT hown hat hrd hlen hmax hbase
    unfold Oper.wp execOp
    simp only [ho, resolve, invoke, builtin, Sem.run_bind, Sem.run_pure, Result.andThen_ok, List.map_toArray, List.map_cons, List.map_nil, hs, hx, hrun]
    exact hK _ _ (h v' w' h2 h3 h4)
end

def llC (a b : Int) : List (List Sym) := [[⟨false, a⟩, ⟨false, b⟩]]
def llU (a b : Int) : List (List Sym) := [[⟨false, a⟩], [⟨false, b⟩]]
def twoG (a b : Gram) (LL : List (List Sym)) : Gram := ⟨a.terms, a.nons + b.nons + 1, a.nons + b.nons, a.rules.map (shR 0) ++ b.rules.map (shR a.nons) ++ LL.map (fun l => (⟨a.nons + b.nons, l⟩ : Rule))⟩
theorem els_sym1 {w : World} {s1 : Sym} (t : TypeId) (h1 : I64 s1.n) : Els (w.alloc (.cells #[.bool s1.term, .int .i64 s1.n] t)) (fun b => b = w.heap.size) [s1] (some ⟨w.heap.size, 0, none⟩) := fun _ => by
  refine ⟨w.heap.size, 0, rfl, rfl, fun i z hz => ?_⟩
  match i, hz with
  | 0, hz =>
    simp at hz; subst hz
    refine ⟨[.bool s1.term, .int .i64 s1.n], ⟨rfl, h1⟩, fun j u hu => ?_⟩
    rw [show 0 + 0 * Dat.size Sym + j = j by omega, (Blk'.new w t _).cell j]
    match j, hu with
    | 0, hu => simp at hu; subst hu; rfl
    | 1, hu => simp at hu; subst hu; rfl
theorem els_row1 {w : World} {S : Nat → Prop} {l : List Sym} {A : Option Addr} {c : Nat} (t : TypeId) (h : Els w S l A) (k1 : l.length ≤ c) (k2 : c ≤ 9223372036854775807) : Els (w.alloc (.cells #[.slice A l.length c] t)) (fun b => S b ∨ b = w.heap.size) [l] (some ⟨w.heap.size, 0, none⟩) := fun _ => by
  have hb : Below w.heap.size w (w.alloc (.cells #[.slice A l.length c] t)) := (Below.refl _ _).alloc (Nat.le_refl _) _
  refine ⟨w.heap.size, 0, rfl, .inr rfl, fun i z hz => ?_⟩
  match i, hz with
  | 0, hz =>
    simp at hz; subst hz
    refine ⟨[.slice A l.length c], ⟨A, c, rfl, k1, by simpa [maxLen] using k2, (h.below hb).keep (fun _ _ _ => rfl) (fun b h => .inl h)⟩, fun j u hu => ?_⟩
    rw [show 0 + 0 * Dat.size (List Sym) + j = j by omega, (Blk'.new w t _).cell j]
    match j, hu with
    | 0, hu => simp at hu; subst hu; rfl
theorem els_row2 {w : World} {S : Nat → Prop} {l l' : List Sym} {A A' : Option Addr} {c c' : Nat} (t : TypeId) (h : Els w S l A) (k1 : l.length ≤ c) (k2 : c ≤ 9223372036854775807) (h' : Els w S l' A') (k1' : l'.length ≤ c') (k2' : c' ≤ 9223372036854775807) : Els (w.alloc (.cells #[.slice A l.length c, .slice A' l'.length c'] t)) (fun b => S b ∨ b = w.heap.size) [l, l'] (some ⟨w.heap.size, 0, none⟩) := fun _ => by
  have hb : Below w.heap.size w (w.alloc (.cells #[.slice A l.length c, .slice A' l'.length c'] t)) := (Below.refl _ _).alloc (Nat.le_refl _) _
  refine ⟨w.heap.size, 0, rfl, .inr rfl, fun i z hz => ?_⟩
  match i, hz with
  | 0, hz =>
    simp at hz; subst hz
    refine ⟨[.slice A l.length c], ⟨A, c, rfl, k1, by simpa [maxLen] using k2, (h.below hb).keep (fun _ _ _ => rfl) (fun b h => .inl h)⟩, fun j u hu => ?_⟩
    rw [show 0 + 0 * Dat.size (List Sym) + j = j by omega, (Blk'.new w t _).cell j]
    match j, hu with
    | 0, hu => simp at hu; subst hu; rfl
  | 1, hz =>
    simp at hz; subst hz
    refine ⟨[.slice A' l'.length c'], ⟨A', c', rfl, k1', by simpa [maxLen] using k2', (h'.below hb).keep (fun _ _ _ => rfl) (fun b h => .inl h)⟩, fun j u hu => ?_⟩
    rw [show 0 + 1 * Dat.size (List Sym) + j = 1 + j by show 0 + 1 * 1 + j = 1 + j; omega, (Blk'.new w t _).cell (1 + j)]
    match j, hu with
    | 0, hu => simp at hu; subst hu; rfl

set_option maxRecDepth 100000 in
theorem union1_any (s1 s2 : Sym) (w : World) (h1 : I64 s1.n) (h2 : I64 s2.n) :
    Calls Tryd.prog 34 #[.agg #[.bool s1.term, .int .i64 s1.n], .agg #[.bool s2.term, .int .i64 s2.n]] w fun e w' => ∃ b1, e = .returned (.slice (some ⟨b1, 0, none⟩) 2 2) ∧ Els w' (fun b => w.heap.size ≤ b ∧ b < w'.heap.size) [[s1], [s2]] (some ⟨b1, 0, none⟩) ∧ Below w.heap.size w w' := by
  go_enter Tryd.func34, Tryd.ntmps34
  go_wp2
  refine bodyPost_ret (v := .slice (some ⟨w.heap.size + 1 + 1 + 1 + 1, 0, none⟩) 2 2) (by simp [results, Tryd.results34, go_sem]) rfl ⟨w.heap.size + 1 + 1 + 1 + 1, rfl, ?_, ?_⟩
  · obtain ⟨wa, hwa⟩ : ∃ wa : World, wa = (w.alloc (.cells #[.bool s1.term, .int .i64 s1.n] 69)).alloc (.cells #[.bool s2.term, .int .i64 s2.n] 69) := ⟨_, rfl⟩
    have hza : wa.heap.size = w.heap.size + 1 + 1 := by rw [hwa]; simp
    rw [← hwa]
    have ha := els_sym1 (w := wa) (s1 := s1) 69 h1
    have hb := els_sym1 (w := wa.alloc (.cells #[.bool s1.term, .int .i64 s1.n] 69)) (s1 := s2) 69 h2
    have hzb : (wa.alloc (.cells #[.bool s1.term, .int .i64 s1.n] 69)).heap.size = w.heap.size + 1 + 1 + 1 := by simp [hza]
    have hzc : ((wa.alloc (.cells #[.bool s1.term, .int .i64 s1.n] 69)).alloc (.cells #[.bool s2.term, .int .i64 s2.n] 69)).heap.size = w.heap.size + 1 + 1 + 1 + 1 := by simp [hza]
    rw [hza] at ha
    rw [hzb] at hb
    have hc := els_row2 (S := fun b => b = w.heap.size + 1 + 1 ∨ b = w.heap.size + 1 + 1 + 1) (c := 1) (c' := 1) 55 ((ha.below ((Below.refl _ _).alloc (Nat.le_refl _) (.cells #[.bool s2.term, .int .i64 s2.n] 69))).keep (fun _ _ _ => rfl) (fun b h => .inl h)) (Nat.le_refl _) (by omega) (hb.keep (fun _ _ _ => rfl) (fun b h => .inr h)) (Nat.le_refl _) (by omega)
    rw [hzc] at hc
    refine hc.keep (fun _ _ _ => rfl) (fun b hb => ⟨by omega, ?_⟩)
    have hzd : (((wa.alloc (.cells #[.bool s1.term, .int .i64 s1.n] 69)).alloc (.cells #[.bool s2.term, .int .i64 s2.n] 69)).alloc (.cells #[.slice (some ⟨w.heap.size + 1 + 1, 0, none⟩) 1 1, .slice (some ⟨w.heap.size + 1 + 1 + 1, 0, none⟩) 1 1] 55)).heap.size = w.heap.size + 1 + 1 + 1 + 1 + 1 := by simp [hza]
    rw [hzd]
    omega
  · exact (((((Below.refl _ _).alloc (Nat.le_refl _) _).alloc (by simp) _).alloc (by simp; omega) _).alloc (by simp; omega) _).alloc (by simp; omega) _

def TwL (gt N : Int) (J : List Rule) (LL : List (List Sym)) (T : Nat → Prop) (X base : Nat) (w w8 : World) (i : Value) (wr : World) : Prop :=
  ∃ (k : Nat) (v : Value), k ≤ LL.length ∧ i = .int .i64 k ∧ OwnX wr T base 57 v (J ++ (LL.take k).map (fun l => (⟨N, l⟩ : Rule))) ∧ v.ownBlock ≠ some X ∧ Blk' wr X 25 #[.int .i64 gt, .int .i64 (N + 1), .int .i64 N, v] ∧
    Blk' wr (w.heap.size + 1 + 1) 25 #[.int .i64 0, .int .i64 0, .int .i64 0, .slice none 0 0] ∧ Below w.heap.size w wr ∧ Kept (fun b => base ≤ b ∧ b ≤ X) w8 wr

set_option maxRecDepth 100000 in
set_option maxHeartbeats 8000000 in
theorem unionTwo_any (g h : Gram) (A B : Option Addr) (c d : Nat) (S : Nat → Prop) (w : World) (hck : checkI g = 0) (hckh : checkI h = 0) (hte : h.terms = g.terms) (hlc : g.rules.length ≤ c) (hc : c ≤ 9223372036854775807) (hA : Els w S g.rules A) (hld : h.rules.length ≤ d) (hd : d ≤ 9223372036854775807) (hB : Els w S h.rules B) (hS : ∀ b, S b → b < w.heap.size) :
    Calls Tryd.prog 33 #[.agg #[.int .i64 g.terms, .int .i64 g.nons, .int .i64 g.start, .slice A g.rules.length c], .agg #[.int .i64 h.terms, .int .i64 h.nons, .int .i64 h.start, .slice B h.rules.length d], .func (.func 34) #[] #[]] w (RetMk (twoG g h (llU g.start (g.nons + h.start))) w) := by
  have hv := validG_of hck
  have hvh := validG_of hckh
  have hn10 : g.nons + h.nons ≤ 20 := by have h1 := hv.n10; have h2 := hvh.n10; omega
  have hb64 : I64 g.terms ∧ I64 g.nons ∧ I64 g.start := by
    have h1 := hv.t1; have h2 := hv.t8; have h3 := hv.n1; have h4 := hv.n10; have h5 := hv.s0; have h6 := hv.s1
    unfold I64; omega
  have hb64h : I64 h.terms ∧ I64 h.nons ∧ I64 h.start := by
    have h1 := hvh.t1; have h2 := hvh.t8; have h3 := hvh.n1; have h4 := hvh.n10; have h5 := hvh.s0; have h6 := hvh.s1
    unfold I64; omega
  have hjr : joinR 0 [g, h] ++ (llU g.start (g.nons + h.start)).map (fun l => (⟨g.nons + h.nons, l⟩ : Rule)) = (twoG g h (llU g.start (g.nons + h.start))).rules := by simp [joinR, twoG]
  have hs0 : 0 ≤ g.start ∧ g.start < g.nons := ⟨hv.s0, hv.s1⟩
  have hs1 : 0 ≤ h.start ∧ h.start < h.nons := ⟨hvh.s0, hvh.s1⟩
  have hn1 : 1 ≤ g.nons := hv.n1
  have hm1 : 1 ≤ h.nons := hvh.n1
  have hrl : g.rules.length ≤ 32 := hv.len
  have hrl2 : h.rules.length ≤ 32 := hvh.len
  have hsn : sumN [g, h] = g.nons + h.nons := by simp [sumN]
  obtain ⟨R, hR⟩ : ∃ R, R = (twoG g h (llU g.start (g.nons + h.start))).rules := ⟨_, rfl⟩
  have hcg : twoG g h (llU g.start (g.nons + h.start)) = ⟨g.terms, g.nons + h.nons + 1, g.nons + h.nons, R⟩ := by rw [hR]; rfl
  rw [hcg]
  rw [← hR] at hjr
  clear hR hcg
  obtain ⟨gt, gn, gs, rs⟩ := g
  obtain ⟨ht, hn, ks, rs2⟩ := h
  dsimp only at *
  have hte' := hte.symm
  clear hte
  subst hte'
  have hnn : 2 ≤ gn + hn := by omega
  generalize hN : gn + hn = N at *
  have hN10 : N ≤ 20 := hn10
  have hN1 : 2 ≤ N := hnn
  have hwr : IntKind.i64.wrap (gn + ks) = gn + ks := IntWalk.i64_in _ (by omega)
  have hI1 : Hid (I64 gs) := Lib.hid hb64.2.2
  have hI2 : Hid (I64 (gn + ks)) := Lib.hid (by unfold I64; omega)
  have hIN : Hid (I64 N) := Lib.hid (by unfold I64; omega)
  have HJ := Lib.hid hjr
  have HCk := Lib.hid hck
  have HCh := Lib.hid hckh
  have H64 := Lib.hid hb64
  have H64h := Lib.hid hb64h
  have HSn := Lib.hid hsn
  obtain ⟨w1, hw1⟩ : ∃ w1 : World, w1 = ((w.alloc (.cells #[.int .i64 gt, .int .i64 gn, .int .i64 gs, .slice A rs.length c] 25)).alloc (.cells #[.int .i64 gt, .int .i64 hn, .int .i64 ks, .slice B rs2.length d] 25)).alloc (.cells #[.int .i64 0, .int .i64 0, .int .i64 0, .slice none 0 0] 25) := ⟨_, rfl⟩
  have HW1 := Lib.hid hw1
  have hb1 : Below w.heap.size w w1 := by rw [hw1]; exact (((Below.refl _ _).alloc (Nat.le_refl _) _).alloc (by simp) _).alloc (by simp; omega) _
  have HG1 : Hid (Blk' w1 w.heap.size 25 #[.int .i64 gt, .int .i64 gn, .int .i64 gs, .slice A rs.length c]) := Lib.hid (by rw [hw1]; exact ((Blk'.new w _ _).alloc _).alloc _)
  have HH1 : Hid (Blk' w1 (w.heap.size + 1) 25 #[.int .i64 gt, .int .i64 hn, .int .i64 ks, .slice B rs2.length d]) := Lib.hid (by rw [hw1]; exact (Blk'.new' (g := w.heap.size + 1) _ _ _ (by simp)).alloc _)
  have HR1 : Hid (Blk' w1 (w.heap.size + 1 + 1) 25 #[.int .i64 0, .int .i64 0, .int .i64 0, .slice none 0 0]) := Lib.hid (by rw [hw1]; exact Blk'.new' _ _ _ (by simp))
  have HB1 := Lib.hid hb1
  have HA1 := Lib.hid (hA.belowB hb1 hS)
  have HBB1 := Lib.hid (hB.belowB hb1 hS)
  have HS := Lib.hid hS
  have a0 : w1.cell? ⟨w.heap.size, 0, none⟩ = some (.int .i64 gt) := HG1.out.cell 0
  have a1 : w1.cell? ⟨w.heap.size, 1, none⟩ = some (.int .i64 gn) := HG1.out.cell 1
  have a2 : w1.cell? ⟨w.heap.size, 2, none⟩ = some (.int .i64 gs) := HG1.out.cell 2
  have a3 : w1.cell? ⟨w.heap.size, 3, none⟩ = some (.slice A rs.length c) := HG1.out.cell 3
  have h0 : w1.cell? ⟨w.heap.size + 1, 0, none⟩ = some (.int .i64 gt) := HH1.out.cell 0
  have h1 : w1.cell? ⟨w.heap.size + 1, 1, none⟩ = some (.int .i64 hn) := HH1.out.cell 1
  have h2 : w1.cell? ⟨w.heap.size + 1, 2, none⟩ = some (.int .i64 ks) := HH1.out.cell 2
  have h3 : w1.cell? ⟨w.heap.size + 1, 3, none⟩ = some (.slice B rs2.length d) := HH1.out.cell 3
  have zG : w.heap.size < w1.heap.size := HG1.out.lt
  have zH : w.heap.size + 1 < w1.heap.size := HH1.out.lt
  have HE1 := Lib.hid (els_gram2 (g := ⟨gt, gn, gs, rs⟩) (h := ⟨gt, hn, ks, rs2⟩) 25 HA1.out hlc hc H64.out HBB1.out hld hd H64h.out)
  have hba : Below w1.heap.size w1 (w1.alloc (.cells #[.int .i64 gt, .int .i64 gn, .int .i64 gs, .slice A rs.length c, .int .i64 gt, .int .i64 hn, .int .i64 ks, .slice B rs2.length d] 25)) := (Below.refl _ _).alloc (Nat.le_refl _) _
  have HBa := Lib.hid hba
  clear hw1 hb1 hA hB hck hckh hv hvh hb64 hb64h hjr hsn hS hba hN hn10
  go_enter Tryd.func33, Tryd.ntmps33
  go_upto_region 1 with (fail)
  rw [← HW1.out]
  go_wp2_with fail
  refine (ccheck_any [⟨gt, gn, gs, rs⟩, ⟨gt, hn, ks, rs2⟩] (some ⟨w1.heap.size, 0, none⟩) 2 (fun b => S b ∨ b = w1.heap.size) _ (by simp) (fun g hg => by simp at hg; rcases hg with rfl | rfl; exact HCk.out; exact HCh.out) HE1.out (fun b hb => by rcases hb with hb | hb; (have := HS.out b hb; have := HB1.out.size; simp; omega); (subst hb; simp))).mono ?_
  rintro e w2 ⟨rfl, hb2⟩
  have HB12 := Lib.hid (bthen HBa.out hb2 HBa.out.size)
  have HB2 := Lib.hid (bthen HB1.out HB12.out HB1.out.size)
  have HG2 := Lib.hid (HG1.out.below HB12.out HG1.out.lt)
  have HH2 := Lib.hid (HH1.out.below HB12.out HH1.out.lt)
  have HR2 := Lib.hid (HR1.out.below HB12.out HR1.out.lt)
  have HA2 := Lib.hid (HA1.out.belowB HB12.out (fun b hb => by have := HS.out b hb; have := HB1.out.size; omega))
  have HBB2 := Lib.hid (HBB1.out.belowB HB12.out (fun b hb => by have := HS.out b hb; have := HB1.out.size; omega))
  have b0 : w2.cell? ⟨w.heap.size, 0, none⟩ = some (.int .i64 gt) := HG2.out.cell 0
  have b1 : w2.cell? ⟨w.heap.size, 1, none⟩ = some (.int .i64 gn) := HG2.out.cell 1
  have b2 : w2.cell? ⟨w.heap.size, 2, none⟩ = some (.int .i64 gs) := HG2.out.cell 2
  have b3 : w2.cell? ⟨w.heap.size, 3, none⟩ = some (.slice A rs.length c) := HG2.out.cell 3
  have k0 : w2.cell? ⟨w.heap.size + 1, 0, none⟩ = some (.int .i64 gt) := HH2.out.cell 0
  have k1 : w2.cell? ⟨w.heap.size + 1, 1, none⟩ = some (.int .i64 hn) := HH2.out.cell 1
  have k2 : w2.cell? ⟨w.heap.size + 1, 2, none⟩ = some (.int .i64 ks) := HH2.out.cell 2
  have k3 : w2.cell? ⟨w.heap.size + 1, 3, none⟩ = some (.slice B rs2.length d) := HH2.out.cell 3
  have zG2 : w.heap.size < w2.heap.size := HG2.out.lt
  have zH2 : w.heap.size + 1 < w2.heap.size := HH2.out.lt
  have HE2 := Lib.hid (els_gram2 (g := ⟨gt, gn, gs, rs⟩) (h := ⟨gt, hn, ks, rs2⟩) 25 HA2.out hlc hc H64.out HBB2.out hld hd H64h.out)
  have hba2 : Below w2.heap.size w2 (w2.alloc (.cells #[.int .i64 gt, .int .i64 gn, .int .i64 gs, .slice A rs.length c, .int .i64 gt, .int .i64 hn, .int .i64 ks, .slice B rs2.length d] 25)) := (Below.refl _ _).alloc (Nat.le_refl _) _
  have HBa2 := Lib.hid hba2
  clear a0 a1 a2 a3 h0 h1 h2 h3 hb2 hba2
  go_wp2_with fail
  refine (joinE_any [⟨gt, gn, gs, rs⟩, ⟨gt, hn, ks, rs2⟩] 1 ⟨gt, gn, gs, rs⟩ (some ⟨w2.heap.size, 0, none⟩) 2 (fun b => S b ∨ b = w2.heap.size) _ (by simp) rfl (fun g hg => by simp at hg; rcases hg with rfl | rfl; exact HCk.out; exact HCh.out) (by omega) (by rw [HSn.out]; omega) HE2.out (fun b hb => by rcases hb with hb | hb; (have := HS.out b hb; have := HB2.out.size; simp; omega); (subst hb; simp))).mono ?_
  rintro e w3 ⟨hb3, hcases⟩
  rw [HSn.out] at hcases
  dsimp only at hcases
  rcases hcases with hc1 | ⟨hle, rfl⟩
  rotate_left
  · have HB23 := Lib.hid (bthen HBa2.out hb3 HBa2.out.size)
    have HB3 := Lib.hid (bthen HB2.out HB23.out HB2.out.size)
    have HR3 := Lib.hid (HR2.out.below HB23.out HR2.out.lt)
    obtain ⟨w4, hw4⟩ : ∃ w4 : World, w4 = w3.alloc (.cells #[.int .i64 0, .int .i64 0, .int .i64 0, .slice none 0 0] 25) := ⟨_, rfl⟩
    have HW4 := Lib.hid hw4
    have hb4 : Below w3.heap.size w3 w4 := by rw [hw4]; exact (Below.refl _ _).alloc (Nat.le_refl _) _
    have HB4 := Lib.hid (bthen HB3.out hb4 HB3.out.size)
    have HR10 := Lib.hid (HR3.out.below hb4 HR3.out.lt)
    have r0 := HR10.out.frozen 0
    have r1 := HR10.out.frozen 1
    have r2 := HR10.out.frozen 2
    have r3 := HR10.out.frozen 3
    have q0 : w4.cell? ⟨w.heap.size + 1 + 1, 0, none⟩ = some (.int .i64 0) := HR10.out.cell 0
    have q1 : w4.cell? ⟨w.heap.size + 1 + 1, 1, none⟩ = some (.int .i64 0) := HR10.out.cell 1
    have q2 : w4.cell? ⟨w.heap.size + 1 + 1, 2, none⟩ = some (.int .i64 0) := HR10.out.cell 2
    have q3 : w4.cell? ⟨w.heap.size + 1 + 1, 3, none⟩ = some (.slice none 0 0) := HR10.out.cell 3
    have zR : w.heap.size + 1 + 1 < w4.heap.size := HR10.out.lt
    clear b0 b1 b2 b3 k0 k1 k2 k3 hb3 hw4 hb4
    go_upto_region 7 with (fail)
    rw [← HW4.out]
    go_wp2_with fail
    generalize hwF : World.setCell _ _ _ = wF
    obtain ⟨hRF, kF⟩ := set4 HR10.out (.int .i64 0) (.int .i64 0) (.int .i64 0) (.slice none 0 0)
    rw [hwF] at hRF kF
    have u0 : wF.cell? ⟨w.heap.size + 1 + 1, 0, none⟩ = some (.int .i64 0) := hRF.cell 0
    have u1 : wF.cell? ⟨w.heap.size + 1 + 1, 1, none⟩ = some (.int .i64 0) := hRF.cell 1
    have u2 : wF.cell? ⟨w.heap.size + 1 + 1, 2, none⟩ = some (.int .i64 0) := hRF.cell 2
    have u3 : wF.cell? ⟨w.heap.size + 1 + 1, 3, none⟩ = some (.slice none 0 0) := hRF.cell 3
    clear hwF
    exact bodyPost_ret (v := .tuple #[.agg #[.int .i64 0, .int .i64 0, .int .i64 0, .slice none 0 0], .int .i64 2]) (by simp [results, Tryd.results33, go_sem, u0, u1, u2, u3]) rfl (retMk_large (by dsimp only; omega) rfl (HB4.out.trans (kF.to_below (B := w.heap.size) (fun b (hb : b = w.heap.size + 1 + 1) => by omega) HB4.out.size)))
  obtain ⟨hle, v3, rfl, hown3⟩ := hc1
  obtain ⟨A3, c3, rfl, hc31, hc32, _⟩ := hown3.form
  have HB23 := Lib.hid (bthen HBa2.out hb3 HBa2.out.size)
  have HB3 := Lib.hid (bthen HB2.out HB23.out HB2.out.size)
  have HG3 := Lib.hid (HG2.out.below HB23.out HG2.out.lt)
  have HH3 := Lib.hid (HH2.out.below HB23.out HH2.out.lt)
  have HR3 := Lib.hid (HR2.out.below HB23.out HR2.out.lt)
  have hJ100 : (joinR 0 [(⟨gt, gn, gs, rs⟩ : Gram), ⟨gt, hn, ks, rs2⟩]).length ≤ 64 := by simp [joinR]; omega
  obtain ⟨J, hJ⟩ : ∃ J, J = joinR 0 [(⟨gt, gn, gs, rs⟩ : Gram), ⟨gt, hn, ks, rs2⟩] := ⟨_, rfl⟩
  rw [← hJ] at HJ hown3 hc31 hJ100 ⊢
  have HJl := Lib.hid hJ100
  have hown3' : Own w3 (fun _ => False) w2.heap.size 57 (.slice A3 J.length c3) J := hown3.base (by simp)
  have HO3 := Lib.hid hown3'
  have HT3 := Lib.hid hown3'.toX
  obtain ⟨w4, hw4⟩ : ∃ w4 : World, w4 = w3.alloc (.cells #[.int .i64 gt, .int .i64 (N + 1), .int .i64 N, .slice A3 J.length c3] 25) := ⟨_, rfl⟩
  have HW4 := Lib.hid hw4
  have hb4 : Below w3.heap.size w3 w4 := by rw [hw4]; exact (Below.refl _ _).alloc (Nat.le_refl _) _
  have HB4 := Lib.hid hb4
  have HX4 : Hid (Blk' w4 w3.heap.size 25 #[.int .i64 gt, .int .i64 (N + 1), .int .i64 N, .slice A3 J.length c3]) := Lib.hid (by rw [hw4]; exact Blk'.new _ _ _)
  have HT4 := Lib.hid (hown3'.toX.below hb4 (Nat.le_refl _))
  have HR4 := Lib.hid (HR3.out.below hb4 HR3.out.lt)
  have hG4 := HG3.out.below hb4 HG3.out.lt
  have hH4 := HH3.out.below hb4 HH3.out.lt
  have x1 : w4.cell? ⟨w.heap.size, 1, none⟩ = some (.int .i64 gn) := hG4.cell 1
  have x2 : w4.cell? ⟨w.heap.size, 2, none⟩ = some (.int .i64 gs) := hG4.cell 2
  have y2 : w4.cell? ⟨w.heap.size + 1, 2, none⟩ = some (.int .i64 ks) := hH4.cell 2
  have zX : w3.heap.size < w4.heap.size := HX4.out.lt
  have zG4 : w.heap.size < w4.heap.size := hG4.lt
  have zH4 : w.heap.size + 1 < w4.heap.size := hH4.lt
  have z23 : w2.heap.size ≤ w3.heap.size := HB23.out.size
  have z2 : w.heap.size + 1 + 1 < w2.heap.size := HR2.out.lt
  clear b0 b1 b2 b3 k0 k1 k2 k3 hb3 hw4 hb4 hG4 hH4 hown3 hown3' hJ hJ100
  go_upto_region 7 with (fail)
  rw [← HW4.out]
  go_wp2_with fail
  refine wp_region_noPanic ?_
  refine wp_region_held_drew (S := (fun w' => w'.cell? ⟨w.heap.size, 2, none⟩ = some (.int .i64 gs) ∧ w'.cell? ⟨w.heap.size, 1, none⟩ = some (.int .i64 gn) ∧ w'.cell? ⟨w.heap.size + 1, 2, none⟩ = some (.int .i64 ks))) (by kernel_rfl) ?hg (fun hHeld => ?bg)
  case hg => ((try dsimp only); go_keep)
  refine take_run (i := 0) (v := ?vg0) rfl (by kernel_rfl) (by kernel_rfl) (by kernel_rfl) (fun _ _ _ h => h) (by rfl) ?yg0 (by assumption) ?rg0
  case yg0 => (intro w hSw; (try dsimp only at hSw); go_simp; try with_reducible rfl)
  try simp only [Act.put, List.setIfInBounds_toArray, List.set_cons_zero, List.set_cons_succ]
  refine take_run (i := 1) (v := ?vg1) rfl (by kernel_rfl) (by kernel_rfl) (by kernel_rfl) (fun _ _ _ h => h) (by rfl) ?yg1 (by assumption) ?rg1
  case yg1 => (intro w hSw; (try dsimp only at hSw); go_simp; try with_reducible rfl)
  try simp only [Act.put, List.setIfInBounds_toArray, List.set_cons_zero, List.set_cons_succ]
  refine take_run (i := 2) (v := ?vg2) rfl (by kernel_rfl) (by kernel_rfl) (by kernel_rfl) (fun _ _ _ h => h) (by rfl) ?yg2 (by assumption) ?rg2
  case yg2 => (intro w hSw; (try dsimp only at hSw); go_simp; try with_reducible rfl)
  try simp only [Act.put, List.setIfInBounds_toArray, List.set_cons_zero, List.set_cons_succ]
  refine take_run (i := 4) (v := ?vg4) rfl (by kernel_rfl) (by kernel_rfl) (by kernel_rfl) (fun _ _ _ h => h) (by rfl) ?yg4 (by assumption) ?rg4
  case yg4 => (intro w hSw; (try dsimp only at hSw); go_simp; try with_reducible rfl)
  try simp only [Act.put, List.setIfInBounds_toArray, List.set_cons_zero, List.set_cons_succ]
  refine take_run (i := 5) (v := ?vg5) rfl (by kernel_rfl) (by kernel_rfl) (by kernel_rfl) (fun _ _ _ h => h) (by rfl) ?yg5 (by assumption) ?rg5
  case yg5 => (intro w hSw; (try dsimp only at hSw); go_simp; try with_reducible rfl)
  try simp only [Act.put, List.setIfInBounds_toArray, List.set_cons_zero, List.set_cons_succ]
  refine take_run (i := 6) (v := ?vg6) rfl (by kernel_rfl) (by kernel_rfl) (by kernel_rfl) (fun _ _ _ h => h) (by rfl) ?yg6 (by assumption) ?rg6
  case yg6 => (intro w hSw; (try dsimp only at hSw); go_simp; try with_reducible rfl)
  try simp only [Act.put, List.setIfInBounds_toArray, List.set_cons_zero, List.set_cons_succ]
  refine take_run (i := 7) (v := ?vg7) rfl (by kernel_rfl) (by kernel_rfl) (by kernel_rfl) (fun _ _ _ h => h) (by rfl) ?yg7 (by assumption) ?rg7
  case yg7 => (intro w hSw; (try dsimp only at hSw); go_simp; try with_reducible rfl)
  try simp only [Act.put, List.setIfInBounds_toArray, List.set_cons_zero, List.set_cons_succ]
  refine take_run (i := 8) (v := ?vg8) rfl (by kernel_rfl) (by kernel_rfl) (by kernel_rfl) (fun _ _ _ h => h) (by rfl) ?yg8 (by assumption) ?rg8
  case yg8 => (intro w hSw; (try dsimp only at hSw); go_simp; try with_reducible rfl)
  try simp only [Act.put, List.setIfInBounds_toArray, List.set_cons_zero, List.set_cons_succ]
  refine take_run (i := 12) (v := ?vg12) rfl (by kernel_rfl) (by kernel_rfl) (by kernel_rfl) (fun _ _ _ h => h) (by rfl) ?yg12 (by assumption) ?rg12
  case yg12 => (intro w hSw; (try dsimp only at hSw); go_simp; try with_reducible rfl)
  try simp only [Act.put, List.setIfInBounds_toArray, List.set_cons_zero, List.set_cons_succ]
  refine take_call (i := 3) rfl (by kernel_rfl) (by rfl) (fun Kq hK => ?_)
  go_simp
  go_at_call 69
  refine (n_any gs _).mono ?_
  rintro e p5 ⟨rfl, hb_p5⟩
  have HB_p5 : Hid (Below w4.heap.size w4 p5) := Lib.hid (bundrew hb_p5)
  have n0_p5 := (HB_p5.out.cell (p := ⟨w.heap.size, 2, none⟩) zG4).trans x2
  have n1_p5 := (HB_p5.out.cell (p := ⟨w.heap.size, 1, none⟩) zG4).trans x1
  have n2_p5 := (HB_p5.out.cell (p := ⟨w.heap.size + 1, 2, none⟩) zH4).trans y2
  have zz_p5 : w4.heap.size ≤ p5.heap.size := HB_p5.out.size
  clear hb_p5
  refine hK.out _ _ ?hg3 (fun hHeld => ?rg3)
  case hg3 => ((try dsimp only); go_keep)
  clear hK Kq
  try simp only [Act.put, List.setIfInBounds_toArray, List.set_cons_zero, List.set_cons_succ]
  refine take_call (i := 9) rfl (by kernel_rfl) (by rfl) (fun Kq hK => ?_)
  go_simp
  go_at_call 69
  refine (n_any (gn + ks) _).mono ?_
  rintro e p6 ⟨rfl, hb_p6⟩
  have HB_p6 : Hid (Below w4.heap.size w4 p6) := Lib.hid (bthen HB_p5.out hb_p6 HB_p5.out.size)
  have n0_p6 := (HB_p6.out.cell (p := ⟨w.heap.size, 2, none⟩) zG4).trans x2
  have n1_p6 := (HB_p6.out.cell (p := ⟨w.heap.size, 1, none⟩) zG4).trans x1
  have n2_p6 := (HB_p6.out.cell (p := ⟨w.heap.size + 1, 2, none⟩) zH4).trans y2
  have zz_p6 : w4.heap.size ≤ p6.heap.size := HB_p6.out.size
  clear hb_p6
  refine hK.out _ _ ?hg9 (fun hHeld => ?rg9)
  case hg9 => ((try dsimp only); go_keep)
  clear hK Kq
  try simp only [Act.put, List.setIfInBounds_toArray, List.set_cons_zero, List.set_cons_succ]
  refine take_call (i := 10) rfl (by kernel_rfl) (by rfl) (fun Kq hK => ?_)
  go_simp
  go_at_call 34
  refine (union1_any ⟨false, gs⟩ ⟨false, gn + ks⟩ _ hI1.out hI2.out).mono ?_
  rintro e w8 ⟨b1, rfl, hE8, hb_w8⟩
  have HB_w8 : Hid (Below w4.heap.size w4 w8) := Lib.hid (bthen HB_p6.out hb_w8 HB_p6.out.size)
  have n0_w8 := (HB_w8.out.cell (p := ⟨w.heap.size, 2, none⟩) zG4).trans x2
  have n1_w8 := (HB_w8.out.cell (p := ⟨w.heap.size, 1, none⟩) zG4).trans x1
  have n2_w8 := (HB_w8.out.cell (p := ⟨w.heap.size + 1, 2, none⟩) zH4).trans y2
  have zz_w8 : w4.heap.size ≤ w8.heap.size := HB_w8.out.size
  have HE8 : Hid (Els w8 (fun b => w4.heap.size ≤ b ∧ b < w8.heap.size) (llU gs (gn + ks)) (some ⟨b1, 0, none⟩)) := Lib.hid (hE8.keep (fun _ _ _ => rfl) (fun b hb => by omega))
  clear hb_w8 hE8
  refine hK.out _ _ ?hg10 (fun hHeld => ?rg10)
  case hg10 => ((try dsimp only); go_keep)
  clear hK Kq
  try simp only [Act.put, List.setIfInBounds_toArray, List.set_cons_zero, List.set_cons_succ]
  refine take_run (i := 11) (v := ?vg11) rfl (by kernel_rfl) (by kernel_rfl) (by kernel_rfl) (fun _ _ _ h => h) (by rfl) ?yg11 (by assumption) ?rg11
  case yg11 => (intro w hSw; (try dsimp only at hSw); go_simp; try with_reducible rfl)
  try simp only [Act.put, List.setIfInBounds_toArray, List.set_cons_zero, List.set_cons_succ]
  refine wpAnyH_done (by kernel_rfl) ?_ _
  refine NoPanic.normal ?_
  have HX8 := Lib.hid (HX4.out.below HB_w8.out HX4.out.lt)
  have HR8 := Lib.hid (HR4.out.below HB_w8.out HR4.out.lt)
  have zX8 : w3.heap.size < w8.heap.size := HX8.out.lt
  have z34 : w4.heap.size = w3.heap.size + 1 := by rw [HW4.out]; simp
  have HZ34 := Lib.hid z34
  clear z34
  have HB8 : Hid (Below w.heap.size w w8) := Lib.hid ((HB3.out.trans (HB4.out.mono (by have := HB3.out.size; omega))).trans (HB_w8.out.mono (by have := HB3.out.size; have := HB4.out.size; omega)))
  obtain ⟨T, hTd⟩ : ∃ T : Nat → Prop, T = (fun b => OwnT (fun _ => False) w2.heap.size (.slice A3 J.length c3) w3 b ∨ (w4.heap.size ≤ b ∧ b < w8.heap.size)) := ⟨_, rfl⟩
  have HTd := Lib.hid hTd
  have HO8 : Hid (OwnX w8 T w2.heap.size 57 (.slice A3 J.length c3) J) := Lib.hid (by
    rw [hTd]
    exact (HT4.out.below HB_w8.out (Nat.le_refl _)).mono (fun b hb => .inl hb) (fun k hk hT => by
      have h1 := HO3.out.block k hk
      rcases hT with hT | hT
      · exact hT.2.1 hk
      · have := HB4.out.size; omega) (fun b hb => by
      rcases hb with hb | hb
      · have := hb.2.2; omega
      · exact hb.2))
  clear hTd n0_w8 n1_w8 n2_w8
  obtain ⟨LL, hLL⟩ : ∃ LL, LL = llU gs (gn + ks) := ⟨_, rfl⟩
  have hLn : LL.length = 2 := by rw [hLL]; rfl
  rw [← hLL] at HJ HE8
  clear hLL
  have HLn := Lib.hid hLn
  clear hLn
  go_wp2_with fail
  go_loopw [50] (fun i wr => TwL gt N J LL T w3.heap.size w2.heap.size w w8 i wr) (fun i _ => 2 - (intOf i).toNat)
  case atStart => exact ⟨0, _, Nat.zero_le _, rfl, by simpa using HO8.out, (fun e => by have := (HO3.out.block _ e).2; omega), HX8.out, HR8.out, HB8.out, Kept.refl _ _⟩
  case round =>
    obtain ⟨wo, hwo⟩ : ∃ wo : World, wo = wr := ⟨_, rfl⟩
    subst hwo
    obtain ⟨k, v, hk, rfl, hown, hne, hX, hR, hb, hkp⟩ := hrel
    obtain ⟨M, hM⟩ : ∃ M, M = J ++ (LL.take k).map (fun l => (⟨N, l⟩ : Rule)) := ⟨_, rfl⟩
    rw [← hM] at hown
    obtain ⟨Av, cv, rfl, hcv1, hcv2, _⟩ := hown.form
    have hMl : M.length ≤ 70 := by rw [hM, List.length_append, List.length_map, List.length_take, HLn.out]; have := HJl.out; omega
    have HM := Lib.hid hM
    have HMl := Lib.hid hMl
    have HOo := Lib.hid hown
    have HNe := Lib.hid hne
    have HXo := Lib.hid hX
    have HRo := Lib.hid hR
    have HBo := Lib.hid hb
    have HKo := Lib.hid hkp
    have zo8 : w8.heap.size ≤ wo.heap.size := hkp.size
    clear hown hne hX hR hb hkp hM hMl
    rw [HLn.out] at hk
    by_cases hlt : k < 2
    · obtain ⟨l, hl⟩ := get_some (xs := LL) (k := k) (by rw [HLn.out]; exact hlt)
      obtain ⟨b1', o1', Al, cl, hbe, _, _, hl1, hl2, hEl, hcl⟩ := (HE8.out.kept HKo.out (fun b hb h => by have := HZ34.out; omega)).list hl
      injection hbe with hbe
      injection hbe with hq1 hq2 _
      subst hq1; subst hq2
      rw [Nat.zero_add] at hcl
      have HL := Lib.hid hl
      have hk0 : (0 : Int) ≤ (k : Int) := by omega
      have hk1 : (k : Int) < 2 := by omega
      have e2 : wo.cell? ⟨w3.heap.size, 2, none⟩ = some (.int .i64 N) := HXo.out.cell 2
      have e3 : wo.cell? ⟨w3.heap.size, 3, none⟩ = some (.slice Av M.length cv) := HXo.out.cell 3
      have zXo : w3.heap.size < wo.heap.size := HXo.out.lt
      have hcap1 : (M.length + 1) * 32 ≤ 140737488355328 := by have := HMl.out; omega
      have hcap2 : M.length + 1 ≤ 9223372036854775807 := by have := HMl.out; omega
      have HBas : Hid (w2.heap.size ≤ (wo.alloc (.cells #[.int .i64 N, .slice Al l.length cl] 57)).heap.size) := Lib.hid (by simp; omega)
      have HOa := Lib.hid (HOo.out.below (B := wo.heap.size) ((Below.refl _ _).alloc (Nat.le_refl _) (.cells #[.int .i64 N, .slice Al l.length cl] 57)) (Nat.le_refl _))
      have HRd : Hid (Dat.rd (wo.alloc (.cells #[.int .i64 N, .slice Al l.length cl] 57)) T (⟨N, l⟩ : Rule) [.int .i64 N, .slice Al l.length cl]) := Lib.hid ⟨_, rfl, hIN.out, Vl.of_slice rfl hl1 hl2 ((hEl.below ((Below.refl _ _).alloc (Nat.le_refl _) _)).keep (fun _ _ _ => rfl) (fun b hb => by rw [HTd.out]; exact .inr hb))⟩
      have zq1 : w3.heap.size < wo.heap.size + 1 := by omega
      clear hl hEl
      go_wp2_with ((at_builtin); (refine wpList_ownX1 _ rfl _ _ elemRule rfl rfl HOa.out (⟨N, l⟩ : Rule) [.int .i64 N, .slice Al l.length cl] rfl (At.new _ _ _) HRd.out hcap1 hcap2 HBas.out ?_); (intro v' w9 hown9 hg9 hat9); (obtain ⟨A9, k9, hv9, hk91, hk92, _⟩ := hown9.form); (rw [snoc_len] at hv9); (subst hv9); (have hX9 := (HXo.out.alloc (.cells #[.int .i64 N, .slice Al l.length cl] 57)).grown hg9 (fun e => HNe.out e.symm)); (have m3 := hX9.cell 3); (have f3 := hX9.frozen 3); (have zX9 := hX9.lt); (have H9 := Lib.hid (And.intro hown9 (And.intro hg9 (And.intro hX9 hat9)))); (clear hown9 hg9 hat9 hX9 hk91 hk92); (simp at m3))
      go_roundw
      case rel =>
        obtain ⟨hown9, hg9, hX9, hat9⟩ := H9.out
        have hob : ∀ kk, (Value.slice Av M.length cv).ownBlock = some kk → (w2.heap.size ≤ kk ∧ kk ≤ w3.heap.size) ∨ w8.heap.size ≤ kk := fun kk hkk => by
          obtain ⟨css, _, _, _, hnT, _⟩ := HOo.out
          have h1 := HOo.out.block kk hkk
          have h2 := hnT kk hkk
          rw [HTd.out] at h2
          have h3 : ¬ (w4.heap.size ≤ kk ∧ kk < w8.heap.size) := fun h => h2 (.inr h)
          have h4 := HZ34.out
          have h5 : kk ≠ w3.heap.size := fun e => HNe.out (by rw [hkk, e])
          omega
        have hkk : Kept (fun b => w2.heap.size ≤ b ∧ b ≤ w3.heap.size) w8 (w9.setCell ⟨w3.heap.size, 3, none⟩ (.slice A9 (M.length + 1) k9)) := ((HKo.out.alloc _).grown hg9 (fun kk h => hob kk h)).setCell (p := ⟨w3.heap.size, 3, none⟩) (.inl ⟨z23, Nat.le_refl _⟩) _
        have hne9 : (Value.slice A9 (M.length + 1) k9).ownBlock ≠ some w3.heap.size := fun e => by
          rcases hat9 with q | q
          · rw [q] at e; exact HNe.out e
          · rw [q] at e; injection e with e; simp at e; omega
        refine ⟨k + 1, .slice A9 (M.length + 1) k9, by rw [HLn.out]; exact hlt, by go_num, ?_, hne9, hX9.set_ 3 _, HR8.out.kept hkk (fun h => by omega), HB8.out.trans (hkk.to_below (B := w.heap.size) (fun b hb => by omega) HB8.out.size), hkk⟩
        rw [take_snoc HL.out, List.map_append, ← List.append_assoc, ← HM.out]
        exact hown9.setCell (p := ⟨w3.heap.size, 3, none⟩) hne9 (fun hT => by
          rw [HTd.out] at hT
          rcases hT with hT | hT
          · have := hT.2.2; dsimp only at this; omega
          · have := HZ34.out; dsimp only at hT; omega) _
      case measure => simp [intOf]; omega
    · have hkk : k = LL.length := by rw [HLn.out]; omega
      have HMR : Hid (M = R) := Lib.hid (by rw [HM.out, hkk, List.take_length]; exact HJ.out)
      have hMR := HMR.out
      subst hMR
      have HOE : Hid (Own wo (fun _ => False) w2.heap.size 57 (.slice Av M.length cv) M) := Lib.hid (HOo.out.own (fun b hb => .inr (by
        rw [HTd.out] at hb
        rcases hb with hb | hb
        · exact hb.1.elim (fun h => h.elim) id
        · have := HZ34.out; omega)))
      have e0 : wo.cell? ⟨w3.heap.size, 0, none⟩ = some (.int .i64 gt) := HXo.out.cell 0
      have e1 : wo.cell? ⟨w3.heap.size, 1, none⟩ = some (.int .i64 (N + 1)) := HXo.out.cell 1
      have e2 : wo.cell? ⟨w3.heap.size, 2, none⟩ = some (.int .i64 N) := HXo.out.cell 2
      have e3 : wo.cell? ⟨w3.heap.size, 3, none⟩ = some (.slice Av M.length cv) := HXo.out.cell 3
      have zXE : w3.heap.size < wo.heap.size := HXo.out.lt
      clear hkk HJ HM HMR
      have hk1 : ¬ (k : Int) < 2 := by omega
      go_wp2_with fail
      refine (finishE_any ⟨gt, N + 1, N, M⟩ Av cv _ wo hcv1 hcv2 HOE.out.vl.els.2.2.2 (fun b hb => hb.2)).mono ?_
      rintro e w10 ⟨hfin, hb10⟩
      have HB10 := Lib.hid (bthen HBo.out hb10 HBo.out.size)
      have HR10 := Lib.hid (HRo.out.below hb10 HRo.out.lt)
      have HO10 := Lib.hid (HOE.out.below hb10 (Nat.le_refl _))
      clear e0 e1 e2 e3 hb10
      have r0 := HR10.out.frozen 0
      have r1 := HR10.out.frozen 1
      have r2 := HR10.out.frozen 2
      have r3 := HR10.out.frozen 3
      have q0 : w10.cell? ⟨w.heap.size + 1 + 1, 0, none⟩ = some (.int .i64 0) := HR10.out.cell 0
      have q1 : w10.cell? ⟨w.heap.size + 1 + 1, 1, none⟩ = some (.int .i64 0) := HR10.out.cell 1
      have q2 : w10.cell? ⟨w.heap.size + 1 + 1, 2, none⟩ = some (.int .i64 0) := HR10.out.cell 2
      have q3 : w10.cell? ⟨w.heap.size + 1 + 1, 3, none⟩ = some (.slice none 0 0) := HR10.out.cell 3
      have zR : w.heap.size + 1 + 1 < w10.heap.size := HR10.out.lt
      rcases hfin with ⟨hfin, rfl⟩ | ⟨hfin, rfl⟩
      · go_wp2_with fail
        generalize hwF : World.setCell _ _ _ = wF
        obtain ⟨hRF, kF⟩ := set4 HR10.out (.int .i64 gt) (.int .i64 (N + 1)) (.int .i64 N) (.slice Av M.length cv)
        rw [hwF] at hRF kF
        have u0 : wF.cell? ⟨w.heap.size + 1 + 1, 0, none⟩ = some (.int .i64 gt) := hRF.cell 0
        have u1 : wF.cell? ⟨w.heap.size + 1 + 1, 1, none⟩ = some (.int .i64 (N + 1)) := hRF.cell 1
        have u2 : wF.cell? ⟨w.heap.size + 1 + 1, 2, none⟩ = some (.int .i64 N) := hRF.cell 2
        have u3 : wF.cell? ⟨w.heap.size + 1 + 1, 3, none⟩ = some (.slice Av M.length cv) := hRF.cell 3
        clear hwF
        exact bodyPost_ret (v := .tuple #[.agg #[.int .i64 gt, .int .i64 (N + 1), .int .i64 N, .slice Av M.length cv], .int .i64 0]) (by simp [results, Tryd.results33, go_sem, u0, u1, u2, u3]) rfl (retMk_ok (by dsimp only; omega) hfin (A := Av) (c := cv) hcv1 hcv2 rfl (((HO10.out.kept kF (fun b (hb : b = w.heap.size + 1 + 1) h => h.elim id (fun h => by omega))).base (base' := w.heap.size) (by omega)).vl.els.2.2.2.keep (fun _ _ _ => rfl) (fun b hb => ⟨by rcases hb.1 with h | h; exact h.elim; exact h, hb.2⟩)) (HB10.out.trans (kF.to_below (B := w.heap.size) (fun b (hb : b = w.heap.size + 1 + 1) => by omega) HB10.out.size)))
      · obtain ⟨E, hE⟩ : ∃ E, E = checkI ⟨gt, N + 1, N, M⟩ := ⟨_, rfl⟩
        have HEq := Lib.hid hE
        have hE0 : ¬ E = 0 := by rw [hE]; exact hfin
        rw [← hE]
        clear hE
        go_wp2_with fail
        generalize hwF : World.setCell _ _ _ = wF
        obtain ⟨hRF, kF⟩ := set4 HR10.out (.int .i64 0) (.int .i64 0) (.int .i64 0) (.slice none 0 0)
        rw [hwF] at hRF kF
        have u0 : wF.cell? ⟨w.heap.size + 1 + 1, 0, none⟩ = some (.int .i64 0) := hRF.cell 0
        have u1 : wF.cell? ⟨w.heap.size + 1 + 1, 1, none⟩ = some (.int .i64 0) := hRF.cell 1
        have u2 : wF.cell? ⟨w.heap.size + 1 + 1, 2, none⟩ = some (.int .i64 0) := hRF.cell 2
        have u3 : wF.cell? ⟨w.heap.size + 1 + 1, 3, none⟩ = some (.slice none 0 0) := hRF.cell 3
        clear hwF
        exact bodyPost_ret (v := .tuple #[.agg #[.int .i64 0, .int .i64 0, .int .i64 0, .slice none 0 0], .int .i64 E]) (by simp [results, Tryd.results33, go_sem, u0, u1, u2, u3]) rfl (retMk_bad (by dsimp only; omega) hfin (by rw [HEq.out]) (HB10.out.trans (kF.to_below (B := w.heap.size) (fun b (hb : b = w.heap.size + 1 + 1) => by omega) HB10.out.size)))

set_option maxRecDepth 100000 in
set_option maxHeartbeats 4000000 in
theorem twoBad_any (g h : Gram) (A B : Option Addr) (c d : Nat) (S : Nat → Prop) (w : World) (F : FuncId) (hck : ¬ firstE [g, h] = 0) (h64 : I64 g.terms ∧ I64 g.nons ∧ I64 g.start) (h64h : I64 h.terms ∧ I64 h.nons ∧ I64 h.start) (hlc : g.rules.length ≤ c) (hc : c ≤ 9223372036854775807) (hA : Els w S g.rules A) (hld : h.rules.length ≤ d) (hd : d ≤ 9223372036854775807) (hB : Els w S h.rules B) (hS : ∀ b, S b → b < w.heap.size) :
    Calls Tryd.prog 33 #[.agg #[.int .i64 g.terms, .int .i64 g.nons, .int .i64 g.start, .slice A g.rules.length c], .agg #[.int .i64 h.terms, .int .i64 h.nons, .int .i64 h.start, .slice B h.rules.length d], .func (.func F) #[] #[]] w (RetZ (firstE [g, h]) w) := by
  obtain ⟨gt, gn, gs, rs⟩ := g
  obtain ⟨ht, hn, ks, rs2⟩ := h
  dsimp only at *
  have HCk := Lib.hid hck
  clear hck
  obtain ⟨w1, hw1⟩ : ∃ w1 : World, w1 = (((w.alloc (.cells #[.int .i64 gt, .int .i64 gn, .int .i64 gs, .slice A rs.length c] 25)).alloc (.cells #[.int .i64 ht, .int .i64 hn, .int .i64 ks, .slice B rs2.length d] 25)).alloc (.cells #[.int .i64 0, .int .i64 0, .int .i64 0, .slice none 0 0] 25)) := ⟨_, rfl⟩
  have HW1 := Lib.hid hw1
  have hb1 : Below w.heap.size w w1 := by rw [hw1]; exact (((Below.refl _ _).alloc (Nat.le_refl _) _).alloc (by simp) _).alloc (by simp; omega) _
  have HG1 : Hid (Blk' w1 w.heap.size 25 #[.int .i64 gt, .int .i64 gn, .int .i64 gs, .slice A rs.length c]) := Lib.hid (by rw [hw1]; exact ((Blk'.new w _ _).alloc _).alloc _)
  have HH1 : Hid (Blk' w1 (w.heap.size + 1) 25 #[.int .i64 ht, .int .i64 hn, .int .i64 ks, .slice B rs2.length d]) := Lib.hid (by rw [hw1]; exact (Blk'.new' (g := w.heap.size + 1) _ _ _ (by simp)).alloc _)
  have HR1 : Hid (Blk' w1 (w.heap.size + 1 + 1) 25 #[.int .i64 0, .int .i64 0, .int .i64 0, .slice none 0 0]) := Lib.hid (by rw [hw1]; exact Blk'.new' _ _ _ (by simp))
  have HB1 := Lib.hid hb1
  have HA1 := Lib.hid (hA.belowB hb1 hS)
  have HBB1 := Lib.hid (hB.belowB hb1 hS)
  have HS : Hid (∀ b, S b → b < w1.heap.size) := Lib.hid (fun b hb => by have := hS b hb; have := hb1.size; omega)
  have a0 : w1.cell? ⟨w.heap.size, 0, none⟩ = some (.int .i64 gt) := HG1.out.cell 0
  have a1 : w1.cell? ⟨w.heap.size, 1, none⟩ = some (.int .i64 gn) := HG1.out.cell 1
  have a2 : w1.cell? ⟨w.heap.size, 2, none⟩ = some (.int .i64 gs) := HG1.out.cell 2
  have a3 : w1.cell? ⟨w.heap.size, 3, none⟩ = some (.slice A rs.length c) := HG1.out.cell 3
  have h0 : w1.cell? ⟨w.heap.size + 1, 0, none⟩ = some (.int .i64 ht) := HH1.out.cell 0
  have h1 : w1.cell? ⟨w.heap.size + 1, 1, none⟩ = some (.int .i64 hn) := HH1.out.cell 1
  have h2 : w1.cell? ⟨w.heap.size + 1, 2, none⟩ = some (.int .i64 ks) := HH1.out.cell 2
  have h3 : w1.cell? ⟨w.heap.size + 1, 3, none⟩ = some (.slice B rs2.length d) := HH1.out.cell 3
  have zG : w.heap.size < w1.heap.size := HG1.out.lt
  have zH : w.heap.size + 1 < w1.heap.size := HH1.out.lt
  have H64 := Lib.hid h64
  have H64h := Lib.hid h64h
  have HE1 := Lib.hid (els_gram2 (g := ⟨gt, gn, gs, rs⟩) (h := ⟨ht, hn, ks, rs2⟩) 25 HA1.out hlc hc H64.out HBB1.out hld hd H64h.out)
  have hba : Below w1.heap.size w1 (w1.alloc (.cells #[.int .i64 gt, .int .i64 gn, .int .i64 gs, .slice A rs.length c, .int .i64 ht, .int .i64 hn, .int .i64 ks, .slice B rs2.length d] 25)) := (Below.refl _ _).alloc (Nat.le_refl _) _
  have HBa := Lib.hid hba
  clear hw1 hb1 hA hB hS hba h64 h64h
  go_enter Tryd.func33, Tryd.ntmps33
  go_upto_region 1 with (fail)
  rw [← HW1.out]
  go_wp2_with fail
  refine (ccheckE_any [⟨gt, gn, gs, rs⟩, ⟨ht, hn, ks, rs2⟩] (some ⟨w1.heap.size, 0, none⟩) 2 (fun b => S b ∨ b = w1.heap.size) _ (by simp) HE1.out (fun b hb => by rcases hb with hb | hb; (have := HS.out b hb; have := HB1.out.size; simp; omega); (subst hb; simp))).mono ?_
  rintro e w2 ⟨rfl, hb2⟩
  obtain ⟨E, hE⟩ : ∃ E, E = firstE [⟨gt, gn, gs, rs⟩, ⟨ht, hn, ks, rs2⟩] := ⟨_, rfl⟩
  have HEq := Lib.hid hE
  have hE0 : ¬ E = 0 := by rw [hE]; exact HCk.out
  rw [← hE]
  have HB12 := Lib.hid (bthen HBa.out hb2 HBa.out.size)
  have HB2 := Lib.hid (bthen HB1.out HB12.out HB1.out.size)
  have HR2 := Lib.hid (HR1.out.below HB12.out HR1.out.lt)
  clear a0 a1 a2 a3 h0 h1 h2 h3 hb2 hE
  have r0 := HR2.out.frozen 0
  have r1 := HR2.out.frozen 1
  have r2 := HR2.out.frozen 2
  have r3 := HR2.out.frozen 3
  have q0 : w2.cell? ⟨w.heap.size + 1 + 1, 0, none⟩ = some (.int .i64 0) := HR2.out.cell 0
  have q1 : w2.cell? ⟨w.heap.size + 1 + 1, 1, none⟩ = some (.int .i64 0) := HR2.out.cell 1
  have q2 : w2.cell? ⟨w.heap.size + 1 + 1, 2, none⟩ = some (.int .i64 0) := HR2.out.cell 2
  have q3 : w2.cell? ⟨w.heap.size + 1 + 1, 3, none⟩ = some (.slice none 0 0) := HR2.out.cell 3
  have zR : w.heap.size + 1 + 1 < w2.heap.size := HR2.out.lt
  go_wp2_with fail
  generalize hwF : World.setCell _ _ _ = wF
  obtain ⟨hRF, kF⟩ := set4 HR2.out (.int .i64 0) (.int .i64 0) (.int .i64 0) (.slice none 0 0)
  rw [hwF] at hRF kF
  have u0 : wF.cell? ⟨w.heap.size + 1 + 1, 0, none⟩ = some (.int .i64 0) := hRF.cell 0
  have u1 : wF.cell? ⟨w.heap.size + 1 + 1, 1, none⟩ = some (.int .i64 0) := hRF.cell 1
  have u2 : wF.cell? ⟨w.heap.size + 1 + 1, 2, none⟩ = some (.int .i64 0) := hRF.cell 2
  have u3 : wF.cell? ⟨w.heap.size + 1 + 1, 3, none⟩ = some (.slice none 0 0) := hRF.cell 3
  clear hwF
  exact bodyPost_ret (v := .tuple #[.agg #[.int .i64 0, .int .i64 0, .int .i64 0, .slice none 0 0], .int .i64 E]) (by simp [results, Tryd.results33, go_sem, u0, u1, u2, u3]) rfl ⟨by rw [HEq.out], HB2.out.trans (kF.to_below (B := w.heap.size) (fun b (hb : b = w.heap.size + 1 + 1) => by omega) HB2.out.size)⟩

set_option maxRecDepth 100000 in
set_option maxHeartbeats 4000000 in
theorem twoTerms_any (g h : Gram) (A B : Option Addr) (c d : Nat) (S : Nat → Prop) (w : World) (F : FuncId) (hck : firstE [g, h] = 0) (hte : ¬ h.terms = g.terms) (h64 : I64 g.terms ∧ I64 g.nons ∧ I64 g.start) (h64h : I64 h.terms ∧ I64 h.nons ∧ I64 h.start) (hlc : g.rules.length ≤ c) (hc : c ≤ 9223372036854775807) (hA : Els w S g.rules A) (hld : h.rules.length ≤ d) (hd : d ≤ 9223372036854775807) (hB : Els w S h.rules B) (hS : ∀ b, S b → b < w.heap.size) :
    Calls Tryd.prog 33 #[.agg #[.int .i64 g.terms, .int .i64 g.nons, .int .i64 g.start, .slice A g.rules.length c], .agg #[.int .i64 h.terms, .int .i64 h.nons, .int .i64 h.start, .slice B h.rules.length d], .func (.func F) #[] #[]] w (RetZ 1 w) := by
  obtain ⟨gt, gn, gs, rs⟩ := g
  obtain ⟨ht, hn, ks, rs2⟩ := h
  dsimp only at *
  have HCk := Lib.hid hck
  have hte2 : ¬ gt = ht := fun e => hte e.symm
  clear hck
  obtain ⟨w1, hw1⟩ : ∃ w1 : World, w1 = (((w.alloc (.cells #[.int .i64 gt, .int .i64 gn, .int .i64 gs, .slice A rs.length c] 25)).alloc (.cells #[.int .i64 ht, .int .i64 hn, .int .i64 ks, .slice B rs2.length d] 25)).alloc (.cells #[.int .i64 0, .int .i64 0, .int .i64 0, .slice none 0 0] 25)) := ⟨_, rfl⟩
  have HW1 := Lib.hid hw1
  have hb1 : Below w.heap.size w w1 := by rw [hw1]; exact (((Below.refl _ _).alloc (Nat.le_refl _) _).alloc (by simp) _).alloc (by simp; omega) _
  have HG1 : Hid (Blk' w1 w.heap.size 25 #[.int .i64 gt, .int .i64 gn, .int .i64 gs, .slice A rs.length c]) := Lib.hid (by rw [hw1]; exact ((Blk'.new w _ _).alloc _).alloc _)
  have HH1 : Hid (Blk' w1 (w.heap.size + 1) 25 #[.int .i64 ht, .int .i64 hn, .int .i64 ks, .slice B rs2.length d]) := Lib.hid (by rw [hw1]; exact (Blk'.new' (g := w.heap.size + 1) _ _ _ (by simp)).alloc _)
  have HR1 : Hid (Blk' w1 (w.heap.size + 1 + 1) 25 #[.int .i64 0, .int .i64 0, .int .i64 0, .slice none 0 0]) := Lib.hid (by rw [hw1]; exact Blk'.new' _ _ _ (by simp))
  have HB1 := Lib.hid hb1
  have HA1 := Lib.hid (hA.belowB hb1 hS)
  have HBB1 := Lib.hid (hB.belowB hb1 hS)
  have HS : Hid (∀ b, S b → b < w1.heap.size) := Lib.hid (fun b hb => by have := hS b hb; have := hb1.size; omega)
  have a0 : w1.cell? ⟨w.heap.size, 0, none⟩ = some (.int .i64 gt) := HG1.out.cell 0
  have a1 : w1.cell? ⟨w.heap.size, 1, none⟩ = some (.int .i64 gn) := HG1.out.cell 1
  have a2 : w1.cell? ⟨w.heap.size, 2, none⟩ = some (.int .i64 gs) := HG1.out.cell 2
  have a3 : w1.cell? ⟨w.heap.size, 3, none⟩ = some (.slice A rs.length c) := HG1.out.cell 3
  have h0 : w1.cell? ⟨w.heap.size + 1, 0, none⟩ = some (.int .i64 ht) := HH1.out.cell 0
  have h1 : w1.cell? ⟨w.heap.size + 1, 1, none⟩ = some (.int .i64 hn) := HH1.out.cell 1
  have h2 : w1.cell? ⟨w.heap.size + 1, 2, none⟩ = some (.int .i64 ks) := HH1.out.cell 2
  have h3 : w1.cell? ⟨w.heap.size + 1, 3, none⟩ = some (.slice B rs2.length d) := HH1.out.cell 3
  have zG : w.heap.size < w1.heap.size := HG1.out.lt
  have zH : w.heap.size + 1 < w1.heap.size := HH1.out.lt
  have H64 := Lib.hid h64
  have H64h := Lib.hid h64h
  have HE1 := Lib.hid (els_gram2 (g := ⟨gt, gn, gs, rs⟩) (h := ⟨ht, hn, ks, rs2⟩) 25 HA1.out hlc hc H64.out HBB1.out hld hd H64h.out)
  have hba : Below w1.heap.size w1 (w1.alloc (.cells #[.int .i64 gt, .int .i64 gn, .int .i64 gs, .slice A rs.length c, .int .i64 ht, .int .i64 hn, .int .i64 ks, .slice B rs2.length d] 25)) := (Below.refl _ _).alloc (Nat.le_refl _) _
  have HBa := Lib.hid hba
  clear hw1 hb1 hA hB hS hba h64 h64h
  go_enter Tryd.func33, Tryd.ntmps33
  go_upto_region 1 with (fail)
  rw [← HW1.out]
  go_wp2_with fail
  refine (ccheckE_any [⟨gt, gn, gs, rs⟩, ⟨ht, hn, ks, rs2⟩] (some ⟨w1.heap.size, 0, none⟩) 2 (fun b => S b ∨ b = w1.heap.size) _ (by simp) HE1.out (fun b hb => by rcases hb with hb | hb; (have := HS.out b hb; have := HB1.out.size; simp; omega); (subst hb; simp))).mono ?_
  rintro e w2 ⟨rfl, hb2⟩
  rw [HCk.out]
  have HB12 := Lib.hid (bthen HBa.out hb2 HBa.out.size)
  have HB2 := Lib.hid (bthen HB1.out HB12.out HB1.out.size)
  have HR2 := Lib.hid (HR1.out.below HB12.out HR1.out.lt)
  have HG2 := Lib.hid (HG1.out.below HB12.out HG1.out.lt)
  have HH2 := Lib.hid (HH1.out.below HB12.out HH1.out.lt)
  clear a0 a1 a2 a3 h0 h1 h2 h3 hb2
  have b0 : w2.cell? ⟨w.heap.size, 0, none⟩ = some (.int .i64 gt) := HG2.out.cell 0
  have k0 : w2.cell? ⟨w.heap.size + 1, 0, none⟩ = some (.int .i64 ht) := HH2.out.cell 0
  have zG2 : w.heap.size < w2.heap.size := HG2.out.lt
  have zH2 : w.heap.size + 1 < w2.heap.size := HH2.out.lt
  have r0 := HR2.out.frozen 0
  have r1 := HR2.out.frozen 1
  have r2 := HR2.out.frozen 2
  have r3 := HR2.out.frozen 3
  have q0 : w2.cell? ⟨w.heap.size + 1 + 1, 0, none⟩ = some (.int .i64 0) := HR2.out.cell 0
  have q1 : w2.cell? ⟨w.heap.size + 1 + 1, 1, none⟩ = some (.int .i64 0) := HR2.out.cell 1
  have q2 : w2.cell? ⟨w.heap.size + 1 + 1, 2, none⟩ = some (.int .i64 0) := HR2.out.cell 2
  have q3 : w2.cell? ⟨w.heap.size + 1 + 1, 3, none⟩ = some (.slice none 0 0) := HR2.out.cell 3
  have zR : w.heap.size + 1 + 1 < w2.heap.size := HR2.out.lt
  go_wp2_with fail
  generalize hwF : World.setCell _ _ _ = wF
  obtain ⟨hRF, kF⟩ := set4 HR2.out (.int .i64 0) (.int .i64 0) (.int .i64 0) (.slice none 0 0)
  rw [hwF] at hRF kF
  have u0 : wF.cell? ⟨w.heap.size + 1 + 1, 0, none⟩ = some (.int .i64 0) := hRF.cell 0
  have u1 : wF.cell? ⟨w.heap.size + 1 + 1, 1, none⟩ = some (.int .i64 0) := hRF.cell 1
  have u2 : wF.cell? ⟨w.heap.size + 1 + 1, 2, none⟩ = some (.int .i64 0) := hRF.cell 2
  have u3 : wF.cell? ⟨w.heap.size + 1 + 1, 3, none⟩ = some (.slice none 0 0) := hRF.cell 3
  clear hwF
  exact bodyPost_ret (v := .tuple #[.agg #[.int .i64 0, .int .i64 0, .int .i64 0, .slice none 0 0], .int .i64 1]) (by simp [results, Tryd.results33, go_sem, u0, u1, u2, u3]) rfl ⟨rfl, HB2.out.trans (kF.to_below (B := w.heap.size) (fun b (hb : b = w.heap.size + 1 + 1) => by omega) HB2.out.size)⟩

def pairR (g h : Gram) (LL : List (List Sym)) : Gram × Int := if firstE [g, h] = 0 then (if h.terms = g.terms then mkR (twoG g h LL) else (zeroG, 1)) else (zeroG, firstE [g, h])
theorem firstE_two {g h : Gram} (hf : firstE [g, h] = 0) : checkI g = 0 ∧ checkI h = 0 := by
  unfold firstE at hf
  split at hf
  · exact absurd hf ‹_›
  · unfold firstE at hf
    split at hf
    · exact absurd hf ‹_›
    · exact ⟨Decidable.of_not_not ‹¬ checkI g ≠ 0›, Decidable.of_not_not ‹¬ checkI h ≠ 0›⟩
theorem unionTwoP_any (g h : Gram) (A B : Option Addr) (c d : Nat) (S : Nat → Prop) (w : World) (h64 : I64 g.terms ∧ I64 g.nons ∧ I64 g.start) (h64h : I64 h.terms ∧ I64 h.nons ∧ I64 h.start) (hlc : g.rules.length ≤ c) (hc : c ≤ 9223372036854775807) (hA : Els w S g.rules A) (hld : h.rules.length ≤ d) (hd : d ≤ 9223372036854775807) (hB : Els w S h.rules B) (hS : ∀ b, S b → b < w.heap.size) :
    Calls Tryd.prog 33 #[.agg #[.int .i64 g.terms, .int .i64 g.nons, .int .i64 g.start, .slice A g.rules.length c], .agg #[.int .i64 h.terms, .int .i64 h.nons, .int .i64 h.start, .slice B h.rules.length d], .func (.func 34) #[] #[]] w (RetP (pairR g h (llU g.start (g.nons + h.start))) w) := by
  unfold pairR
  by_cases hf : firstE [g, h] = 0
  · rw [if_pos hf]
    obtain ⟨h1, h2⟩ := firstE_two hf
    by_cases ht : h.terms = g.terms
    · rw [if_pos ht]
      exact (unionTwo_any g h A B c d S w h1 h2 ht hlc hc hA hld hd hB hS).mono fun _ _ h => h.p
    · rw [if_neg ht]
      exact (twoTerms_any g h A B c d S w _ hf ht h64 h64h hlc hc hA hld hd hB hS).mono fun _ _ h => h.p
  · rw [if_neg hf]
    exact (twoBad_any g h A B c d S w _ hf h64 h64h hlc hc hA hld hd hB hS).mono fun _ _ h => h.p
set_option maxRecDepth 100000 in
set_option maxHeartbeats 4000000 in
theorem unionP_any (g h : Gram) (A B : Option Addr) (c d : Nat) (S : Nat → Prop) (w : World) (h64 : I64 g.terms ∧ I64 g.nons ∧ I64 g.start) (h64h : I64 h.terms ∧ I64 h.nons ∧ I64 h.start) (hlc : g.rules.length ≤ c) (hc : c ≤ 9223372036854775807) (hA : Els w S g.rules A) (hld : h.rules.length ≤ d) (hd : d ≤ 9223372036854775807) (hB : Els w S h.rules B) (hS : ∀ b, S b → b < w.heap.size) :
    Calls Tryd.prog 11 #[.agg #[.int .i64 g.terms, .int .i64 g.nons, .int .i64 g.start, .slice A g.rules.length c], .agg #[.int .i64 h.terms, .int .i64 h.nons, .int .i64 h.start, .slice B h.rules.length d]] w (RetP (pairR g h (llU g.start (g.nons + h.start))) w) := by
  obtain ⟨r, hr⟩ : ∃ r, r = pairR g h (llU g.start (g.nons + h.start)) := ⟨_, rfl⟩
  rw [← hr]
  have HTw := Lib.hid (fun (wx : World) (ha : Els wx S g.rules A) (hb : Els wx S h.rules B) (hs : ∀ b, S b → b < wx.heap.size) => (by rw [hr]; exact unionTwoP_any g h A B c d S wx h64 h64h hlc hc ha hld hd hb hs : Calls Tryd.prog 33 #[.agg #[.int .i64 g.terms, .int .i64 g.nons, .int .i64 g.start, .slice A g.rules.length c], .agg #[.int .i64 h.terms, .int .i64 h.nons, .int .i64 h.start, .slice B h.rules.length d], .func (.func 34) #[] #[]] wx (RetP r wx)))
  clear hr
  obtain ⟨gt, gn, gs, rs⟩ := g
  obtain ⟨ht, hn, ks, rs2⟩ := h
  dsimp only at *
  obtain ⟨w1, hw1⟩ : ∃ w1 : World, w1 = (((w.alloc (.cells #[.int .i64 gt, .int .i64 gn, .int .i64 gs, .slice A rs.length c] 25)).alloc (.cells #[.int .i64 ht, .int .i64 hn, .int .i64 ks, .slice B rs2.length d] 25)).alloc (.cells #[.int .i64 0, .int .i64 0, .int .i64 0, .slice none 0 0] 25)) := ⟨_, rfl⟩
  have HW1 := Lib.hid hw1
  have hb1 : Below w.heap.size w w1 := by rw [hw1]; exact (((Below.refl _ _).alloc (Nat.le_refl _) _).alloc (by simp) _).alloc (by simp; omega) _
  have HG1 : Hid (Blk' w1 w.heap.size 25 #[.int .i64 gt, .int .i64 gn, .int .i64 gs, .slice A rs.length c]) := Lib.hid (by rw [hw1]; exact ((Blk'.new w _ _).alloc _).alloc _)
  have HH1 : Hid (Blk' w1 (w.heap.size + 1) 25 #[.int .i64 ht, .int .i64 hn, .int .i64 ks, .slice B rs2.length d]) := Lib.hid (by rw [hw1]; exact (Blk'.new' (g := w.heap.size + 1) _ _ _ (by simp)).alloc _)
  have HR1 : Hid (Blk' w1 (w.heap.size + 1 + 1) 25 #[.int .i64 0, .int .i64 0, .int .i64 0, .slice none 0 0]) := Lib.hid (by rw [hw1]; exact Blk'.new' _ _ _ (by simp))
  have HB1 := Lib.hid hb1
  have HA1 := Lib.hid (hA.belowB hb1 hS)
  have HBB1 := Lib.hid (hB.belowB hb1 hS)
  have HS : Hid (∀ b, S b → b < w1.heap.size) := Lib.hid (fun b hb => by have := hS b hb; have := hb1.size; omega)
  have a0 : w1.cell? ⟨w.heap.size, 0, none⟩ = some (.int .i64 gt) := HG1.out.cell 0
  have a1 : w1.cell? ⟨w.heap.size, 1, none⟩ = some (.int .i64 gn) := HG1.out.cell 1
  have a2 : w1.cell? ⟨w.heap.size, 2, none⟩ = some (.int .i64 gs) := HG1.out.cell 2
  have a3 : w1.cell? ⟨w.heap.size, 3, none⟩ = some (.slice A rs.length c) := HG1.out.cell 3
  have h0 : w1.cell? ⟨w.heap.size + 1, 0, none⟩ = some (.int .i64 ht) := HH1.out.cell 0
  have h1 : w1.cell? ⟨w.heap.size + 1, 1, none⟩ = some (.int .i64 hn) := HH1.out.cell 1
  have h2 : w1.cell? ⟨w.heap.size + 1, 2, none⟩ = some (.int .i64 ks) := HH1.out.cell 2
  have h3 : w1.cell? ⟨w.heap.size + 1, 3, none⟩ = some (.slice B rs2.length d) := HH1.out.cell 3
  have zG : w.heap.size < w1.heap.size := HG1.out.lt
  have zH : w.heap.size + 1 < w1.heap.size := HH1.out.lt
  clear hw1 hb1 hA hB hS h64 h64h
  go_enter Tryd.func11, Tryd.ntmps11
  go_upto_region 1 with (fail)
  rw [← HW1.out]
  go_wp2_with fail
  refine (HTw.out w1 HA1.out HBB1.out HS.out).mono ?_
  rintro e w2 ⟨A9, c9, rfl, hl9, hc9, hE9, hb2⟩
  obtain ⟨⟨qt, qn, qs, qr⟩, E⟩ := r
  dsimp only at hl9 hE9 ⊢
  have HB2 := Lib.hid (bthen HB1.out hb2 HB1.out.size)
  have HR2 := Lib.hid (HR1.out.below hb2 HR1.out.lt)
  have HE9 := Lib.hid hE9
  have z1 : w.heap.size + 1 + 1 < w1.heap.size := HR1.out.lt
  clear a0 a1 a2 a3 h0 h1 h2 h3 hb2 hE9
  have r0 := HR2.out.frozen 0
  have r1 := HR2.out.frozen 1
  have r2 := HR2.out.frozen 2
  have r3 := HR2.out.frozen 3
  have q0 : w2.cell? ⟨w.heap.size + 1 + 1, 0, none⟩ = some (.int .i64 0) := HR2.out.cell 0
  have q1 : w2.cell? ⟨w.heap.size + 1 + 1, 1, none⟩ = some (.int .i64 0) := HR2.out.cell 1
  have q2 : w2.cell? ⟨w.heap.size + 1 + 1, 2, none⟩ = some (.int .i64 0) := HR2.out.cell 2
  have q3 : w2.cell? ⟨w.heap.size + 1 + 1, 3, none⟩ = some (.slice none 0 0) := HR2.out.cell 3
  have zR : w.heap.size + 1 + 1 < w2.heap.size := HR2.out.lt
  go_wp2_with fail
  generalize hwF : World.setCell _ _ _ = wF
  obtain ⟨hRF, kF⟩ := set4 HR2.out (.int .i64 qt) (.int .i64 qn) (.int .i64 qs) (.slice A9 qr.length c9)
  rw [hwF] at hRF kF
  have u0 : wF.cell? ⟨w.heap.size + 1 + 1, 0, none⟩ = some (.int .i64 qt) := hRF.cell 0
  have u1 : wF.cell? ⟨w.heap.size + 1 + 1, 1, none⟩ = some (.int .i64 qn) := hRF.cell 1
  have u2 : wF.cell? ⟨w.heap.size + 1 + 1, 2, none⟩ = some (.int .i64 qs) := hRF.cell 2
  have u3 : wF.cell? ⟨w.heap.size + 1 + 1, 3, none⟩ = some (.slice A9 qr.length c9) := hRF.cell 3
  clear hwF
  exact bodyPost_ret (v := .tuple #[.agg #[.int .i64 qt, .int .i64 qn, .int .i64 qs, .slice A9 qr.length c9], .int .i64 E]) (by simp [results, Tryd.results11, go_sem, u0, u1, u2, u3]) rfl ⟨A9, c9, rfl, hl9, hc9, HE9.out.keep (fun p hp hlt => kF.cell hlt (by show ¬ p.block = w.heap.size + 1 + 1; omega)) (fun b hb => ⟨by omega, Nat.lt_of_lt_of_le hb.2 kF.size⟩), (HB2.out.trans (kF.to_below (B := w.heap.size) (fun b (hb : b = w.heap.size + 1 + 1) => by omega) HB2.out.size))⟩
end Go.Proofs.YtnlpeiffbnlncaaDoor
