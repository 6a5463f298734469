/- Contracts: first.Of. -/
import Derived.Test.YtbboceklkjfimaaDoorQFirstNull
import Derived.Test.YtbboceklkjfimaaDoorQIdxSym
namespace Go.Proofs.YtbboceklkjfimaaDoor
open Go.RowKit
set_option linter.unusedVariables false

set_option maxRecDepth 100000 in
theorem of1_bad (G : Nat) (t n s0 : Int) (A : Option Addr) (k c : Nat) (x : Sym) (w : World) (hG : Blk' w G 35 #[.int .i64 t, .int .i64 n, .int .i64 s0, .slice A k c]) :
    Calls Tryd.prog 61 #[.agg #[.bool x.term, .int .i64 x.n], .pointer (some ⟨G, 0, none⟩)] w fun e w' => e = .returned (.bool (!symIn t n x)) ∧ Below w.heap.size w w' := by
  obtain ⟨xt, xn⟩ := x
  dsimp only
  have g0 : w.cell? ⟨G, 0, none⟩ = some (.int .i64 t) := hG.cell 0
  have g1 : w.cell? ⟨G, 1, none⟩ = some (.int .i64 n) := hG.cell 1
  have g2 : w.cell? ⟨G, 2, none⟩ = some (.int .i64 s0) := hG.cell 2
  have g3 : w.cell? ⟨G, 3, none⟩ = some (.slice A k c) := hG.cell 3
  have zG := hG.lt
  have HBa : Hid (Below w.heap.size w (w.alloc (.cells #[.bool xt, .int .i64 xn] 50))) := Lib.hid ((Below.refl _ _).alloc (Nat.le_refl _) _)
  clear hG
  go_enter Tryd.func61, Tryd.ntmps61
  go_wp2_with fail
  refine (gHas_any t n s0 _ xt xn _ ⟨_, _, _, rfl⟩).mono ?_
  rintro e w1 ⟨rfl, hb1⟩
  have HB := Lib.hid (bthen HBa.out hb1 HBa.out.size)
  obtain ⟨v, hv⟩ : ∃ v, symIn t n ⟨xt, xn⟩ = v := ⟨_, rfl⟩
  rw [hv]
  have HV := Lib.hid hv
  clear hb1 hv
  go_wp2
  go_ret
  exact ⟨ret_bool (by rw [HV.out]), HB.out⟩

set_option maxRecDepth 100000 in
set_option maxHeartbeats 1000000 in
theorem of_badG (g : Gram) (A : Option Addr) (c : Nat) (S : Nat → Prop) (w : World) (B : Option Addr) (k d : Nat) (hck : ¬ checkI g = 0) (hlc : g.rules.length ≤ c) (hc : c ≤ 9223372036854775807) (hA : Els w S g.rules A) :
    Calls Tryd.prog 19 #[.agg #[.int .i64 g.terms, .int .i64 g.nons, .int .i64 g.start, .slice A g.rules.length c], .slice B k d] w fun e w' => e = .returned (.tuple #[.slice none 0 0, .bool false, .int .i64 (checkI g)]) ∧ Below w.heap.size w w' := by
  obtain ⟨gt, gn, gs, rs⟩ := g
  dsimp only at *
  have HB0 : Hid (Below w.heap.size w (w.alloc (.cells #[.int .i64 gt, .int .i64 gn, .int .i64 gs, .slice A rs.length c] 35))) := Lib.hid ((Below.refl _ _).alloc (Nat.le_refl _) _)
  have HA := Lib.hid hA
  clear hA
  go_enter Tryd.func19, Tryd.ntmps19
  go_wp2_with fail
  refine (check_any ⟨gt, gn, gs, rs⟩ A c S _ hlc hc (HA.out.below HB0.out)).mono ?_
  rintro e w1 ⟨rfl, hb1⟩
  have HB1 := Lib.hid (bthen HB0.out hb1 HB0.out.size)
  have hce' : (checkI ⟨gt, gn, gs, rs⟩ != 0) = true := by simpa using hck
  obtain ⟨ce, hE⟩ : ∃ ce, checkI ⟨gt, gn, gs, rs⟩ = ce := ⟨_, rfl⟩
  rw [hE] at hce'
  rw [hE]
  have HE := Lib.hid hE
  clear hE hb1 hck
  go_wp2
  exact bodyPost_ret (v := .tuple #[.slice none 0 0, .bool false, .int .i64 ce]) (by simp [results, Tryd.results19, go_sem]) rfl ⟨by rw [HE.out], HB1.out⟩

def RetOfP (g : Gram) (m n : Nat) (l : List Sym) (w : World) (en : Ending) (w' : World) : Prop :=
  ((l.any fun x => !symIn g.terms g.nons x) = true ∧ en = .returned (.tuple #[.slice none 0 0, .bool false, .int .i64 3]) ∧ Below w.heap.size w w') ∨
  ((l.any fun x => !symIn g.terms g.nons x) = false ∧ ∃ b e f, Stable g m n e f ∧ en = .returned (.tuple #[rowSl b m, .bool (ofFrom e f (List.replicate m false) l).2, .int .i64 0]) ∧ w.heap.size ≤ b ∧ Blk' w' b 4 (bcells (ofFrom e f (List.replicate m false) l).1) ∧ Below w.heap.size w w')
theorem symIn_iff {t n : Int} {x : Sym} : symIn t n x = true ↔ 0 ≤ x.n ∧ if x.term then x.n < t else x.n < n := by
  unfold symIn
  rw [Bool.and_eq_true, decide_eq_true_iff]
  cases x.term <;> simp

set_option maxRecDepth 100000 in
set_option maxHeartbeats 2000000 in
theorem ofPub_any (g : Gram) (m n : Nat) (A : Option Addr) (c : Nat) (S : Nat → Prop) (w : World) (l : List Sym) (B : Option Addr) (d : Nat) (Sl : Nat → Prop) (hgt : g.terms = (m : Int)) (hgn : g.nons = (n : Int)) (hck : checkI g = 0) (hlc : g.rules.length ≤ c) (hc : c ≤ 9223372036854775807) (hA : Els w S g.rules A) (hS : ∀ b, S b → b < w.heap.size)
    (hld : l.length ≤ d) (hd : d ≤ 9223372036854775807) (hB : Els w Sl l B) (hSl : ∀ b, Sl b → b < w.heap.size) :
    Calls Tryd.prog 19 #[.agg #[.int .i64 g.terms, .int .i64 g.nons, .int .i64 g.start, .slice A g.rules.length c], .slice B l.length d] w (RetOfP g m n l w) := by
  have hv := validG_of hck
  obtain ⟨gt, gn, gs, rs⟩ := g
  dsimp only at *
  have hmm : m ≤ 100 ∧ 1 ≤ n ∧ n ≤ 100 := by have := hv.t8; have := hv.n1; have := hv.n10; dsimp only at *; omega
  have HV := Lib.hid hv
  have HT := Lib.hid (And.intro hgt hgn)
  have HA := Lib.hid hA
  have HS := Lib.hid hS
  have HLs := Lib.hid (And.intro hB hSl)
  have HC := Lib.hid hck
  have HB0 : Hid (Below w.heap.size w (w.alloc (.cells #[.int .i64 gt, .int .i64 gn, .int .i64 gs, .slice A rs.length c] 35))) := Lib.hid ((Below.refl _ _).alloc (Nat.le_refl _) _)
  have hl9 : l.length ≤ 9223372036854775807 := by omega
  clear hv hgt hgn hA hS hck hB hSl
  go_enter Tryd.func19, Tryd.ntmps19
  go_wp2_with fail
  refine (check_any ⟨gt, gn, gs, rs⟩ A c S _ hlc hc (HA.out.below HB0.out)).mono ?_
  rintro e w1 ⟨rfl, hb1⟩
  rw [HC.out]
  have HG1 := Lib.hid ((Blk'.new w 35 #[.int .i64 gt, .int .i64 gn, .int .i64 gs, .slice A rs.length c]).below hb1 (by simp))
  have HB1 := Lib.hid (bthen HB0.out hb1 (by simp))
  clear hb1
  go_wp2_with fail
  refine (contSym_any B d l Sl _ _ _ (fun x => !symIn gt gn x) hl9 (HLs.out.1.belowB HB1.out HLs.out.2) (isGo_of Tryd.func61 (by kernel_rfl) (by kernel_rfl)) (fun x W hx hW => of1_bad w.heap.size gt gn gs A rs.length c x W (HG1.out.below hW HG1.out.lt))).mono ?_
  rintro e w2 ⟨rfl, hb2⟩
  have HB2 := Lib.hid (bthen HB1.out hb2 HB1.out.size)
  have hG2 := HG1.out.below hb2 HG1.out.lt
  have g0 : w2.cell? ⟨w.heap.size, 0, none⟩ = some (.int .i64 gt) := hG2.cell 0
  have g1 : w2.cell? ⟨w.heap.size, 1, none⟩ = some (.int .i64 gn) := hG2.cell 1
  have g2 : w2.cell? ⟨w.heap.size, 2, none⟩ = some (.int .i64 gs) := hG2.cell 2
  have g3 : w2.cell? ⟨w.heap.size, 3, none⟩ = some (.slice A rs.length c) := hG2.cell 3
  have zG := hG2.lt
  clear hb2 hG2 HG1
  cases hany : l.any fun x => !symIn gt gn x
  · have HNy := Lib.hid hany
    clear hany
    go_wp2_with fail
    refine (make_any ⟨gt, gn, gs, rs⟩ m n A c S _ HT.out.1 HT.out.2 hmm.1 hmm.2 hlc hc (HA.out.belowB HB2.out HS.out) (fun b hb => by have := HS.out b hb; have := HB2.out.size; omega) (by have := HV.out.len; dsimp only at *; omega) (fun q hq => by have h := HV.out.rules q hq; have e1 := HT.out.1; have e2 := HT.out.2; dsimp only at *; rw [← e1, ← e2]; exact ⟨h.1, h.2.1, h.2.2.2⟩)).mono ?_
    rintro e w3 ⟨p, be, bf, bs, cf, e, f, k, rfl, hM, hsh, hit, hfx, hge, hb3⟩
    have H3 := Lib.hid (And.intro hM (And.intro (Stable.mk (g := ⟨gt, gn, gs, rs⟩) hsh ⟨k, hit⟩ hfx) (bthen HB2.out hb3 HB2.out.size)))
    have HIn : Hid (∀ x ∈ l, 0 ≤ x.n ∧ if x.term then x.n < (m : Int) else x.n < (n : Int)) := Lib.hid (fun x hx => by
      have h := HNy.out
      rw [List.any_eq_false] at h
      have h1 := h x hx
      simp only [Bool.not_eq_true', Bool.not_eq_false] at h1
      have h2 := symIn_iff.1 h1
      have e1 := HT.out.1
      have e2 := HT.out.2
      rw [e1, e2] at h2
      exact h2)
    clear hM hsh hit hfx hge hb3 g0 g1 g2 g3
    go_wp2_with fail
    refine (setsOf_any p be bf bs m n gt gn gs _ cf e f l B d Sl _ H3.out.1 HT.out.1 (by omega) (by omega) hld hd (HLs.out.1.belowB H3.out.2.2 HLs.out.2) (fun b hb => by have := HLs.out.2 b hb; have := H3.out.2.2.size; omega) HIn.out).mono ?_
    rintro en w4 ⟨b, rfl, hbge, hB, hb4⟩
    obtain ⟨v, hv⟩ : ∃ v, (ofFrom e f (List.replicate m false) l).2 = v := ⟨_, rfl⟩
    rw [hv]
    have HVv := Lib.hid hv
    have H4 := Lib.hid (And.intro hbge (And.intro hB (bthen H3.out.2.2 hb4 H3.out.2.2.size)))
    have hz3 := H3.out.2.2.size
    unfold rowSl
    clear hv hbge hB hb4
    go_wp2
    exact bodyPost_ret (v := .tuple #[.slice (some ⟨b, 0, none⟩) m m, .bool v, .int .i64 0]) (by simp [results, Tryd.results19, go_sem]) rfl (.inr ⟨HNy.out, b, e, f, H3.out.2.1, by rw [HVv.out]; rfl, by have := H4.out.1; omega, H4.out.2.1, H4.out.2.2⟩)
  · have HNy := Lib.hid hany
    clear hany
    go_wp2
    exact bodyPost_ret (v := .tuple #[.slice none 0 0, .bool false, .int .i64 3]) (by simp [results, Tryd.results19, go_sem]) rfl (.inl ⟨HNy.out, rfl, HB2.out⟩)
end Go.Proofs.YtbboceklkjfimaaDoor
