/- Facts of the law FirstSays: the program's sets are the reference's; the law's own predicates. -/
import Derived.Test.YtbboceklkjfimaaDoorQFirstOf
import Derived.Test.YtbboceklkjfimaaDoorQFirstBad
import Derived.Test.YtbboceklkjfimaaDoorQRFirst
import Derived.Test.YtbboceklkjfimaaDoorQEqBool
import Derived.Test.YtbboceklkjfimaaDoorQGramErr
import Derived.Test.YtbboceklkjfimaaDoorQSimple
import Derived.Test.YtbboceklkjfimaaDoorQp1
namespace Go.Proofs.YtbboceklkjfimaaDoor
open Go.RowKit
set_option linter.unusedVariables false

theorem ValidG.bounds {g : Gram} (hv : ValidG g) {m n : Nat} (hm : g.terms = (m : Int)) (hn : g.nons = (n : Int)) : ∀ q ∈ g.rules, q.left.toNat < n ∧ ∀ x ∈ q.right, (x.term = false → x.n.toNat < n) ∧ (x.term = true → x.n.toNat < m) := fun q hq => by
  obtain ⟨h1, h2, h3, h4⟩ := hv.rules q hq
  refine ⟨by omega, fun x hx => ⟨fun ht => ?_, fun ht => ?_⟩⟩
  · have h := h4 x hx
    rw [ht] at h
    simp at h
    omega
  · have h := h4 x hx
    rw [ht] at h
    simp at h
    omega
/-- Null agrees. -/
theorem Stable.null {g : Gram} {m n : Nat} {e : List Bool} {f : List (List Bool)} {L : List Int} (h : Stable g m n e f) (hv : ValidG g) (hm : g.terms = (m : Int)) (hn : g.nons = (n : Int)) (hL : LFix g n L) : e = nullB L := by
  have hM := (h.meant (hv.bounds hm hn)).1
  have he : e.length = n := h.shape.e
  refine RowIs.same (m := n) (P := Nul g) ⟨he, fun t _ => hM t⟩ ⟨by unfold nullB; rw [List.length_map]; exact hL.shape.len, fun t ht => hL.nullB (hv.rulesIn hn) ht⟩
/-- First's rows agree. -/
theorem Stable.firstRow {g : Gram} {m n : Nat} {e : List Bool} {f : List (List Bool)} (h : Stable g m n e f) (hv : ValidG g) (hm : g.terms = (m : Int)) (hn : g.nons = (n : Int)) {k : Nat} {r : List Bool} (hr : f[k]? = some r) : RowIs m (FirstL g m [⟨false, (k : Int)⟩]) r := by
  have hM := (h.meant (hv.bounds hm hn)).2
  refine ⟨h.shape.rows k r hr, fun t ht => ?_⟩
  have h1 := hM k t ht
  unfold Gt at h1
  rw [List.getD_eq_getElem?_getD, hr] at h1
  simp only [Option.getD_some] at h1
  rw [h1]
  constructor
  · intro hw
    exact ⟨0, ⟨false, (k : Int)⟩, rfl, (fun y hy => by simp at hy), by unfold nodeS; simpa using hw⟩
  · rintro ⟨i, x, hx, _, hw⟩
    cases i with
    | zero => simp at hx; subst hx; unfold nodeS at hw; simpa using hw
    | succ i => simp at hx
/-- Of agrees. -/
theorem Stable.ofRow {g : Gram} {m n : Nat} {e : List Bool} {f : List (List Bool)} {L : List Int} (h : Stable g m n e f) (hv : ValidG g) (hm : g.terms = (m : Int)) (hn : g.nons = (n : Int)) (hL : LFix g n L) {l : List Sym} (hl : ∀ s ∈ l, SymIn m g s) :
    RowIs m (FirstL g m l) (ofFrom e f (List.replicate m false) l).1 ∧ (ofFrom e f (List.replicate m false) l).2 = emptyB (nullB L) l := by
  obtain ⟨hE, hM⟩ := h.meant (hv.bounds hm hn)
  have hrow : ∀ r ∈ f, r.length = m := fun r hr => by
    obtain ⟨i, hi, rfl⟩ := List.getElem_of_mem hr
    exact h.shape.rows i _ (List.getElem?_eq_getElem hi)
  have hfl : f.length = n := h.shape.f
  refine ⟨⟨by rw [ofFrom_len]; simp, fun t ht => ?_⟩, ?_⟩
  · rw [ofFrom_fst hrow l (List.replicate m false) (by simp) (fun x hx hxt => by have h1 := (hl x hx).2; rw [hxt] at h1; simp at h1; have := (hl x hx).1; omega) t ht]
    have hX : ∀ x ∈ l, InX f x t ↔ WkF g m (nodeS m x) t := fun x hx => by
      unfold InX nodeS
      have h1 := (hl x hx).2
      have h0 := (hl x hx).1
      cases hxt : x.term
      · simp only [Bool.false_eq_true, if_false]
        exact hM x.n.toNat t ht
      · simp only [if_true]
        rw [hxt] at h1
        simp at h1
        exact ⟨fun e => by rw [e]; exact .refl _, fun hw => hw.term (by omega)⟩
    constructor
    · rintro (h1 | ⟨i, x, hi, hp, hx⟩)
      · rw [List.getElem?_replicate] at h1; split at h1 <;> simp at h1
      · exact ⟨i, x, hi, fun y hy => ⟨(hp y hy).1, (hE _).1 (getD_some_true.1 (hp y hy).2)⟩, (hX x (List.mem_of_getElem? hi)).1 hx⟩
    · rintro ⟨i, x, hi, hp, hx⟩
      exact .inr ⟨i, x, hi, fun y hy => ⟨(hp y hy).1, getD_some_true.2 ((hE _).2 (hp y hy).2)⟩, (hX x (List.mem_of_getElem? hi)).2 hx⟩
  · rw [← h.null hv hm hn hL, Bool.eq_iff_iff, ofFrom_snd, emptyB_iff]
    constructor
    · intro h s hs
      exact ⟨(h s hs).1, getD_some_true.1 (h s hs).2⟩
    · intro h s hs
      exact ⟨(h s hs).1, getD_some_true.2 (h s hs).2⟩
theorem simple_stable {e : List Bool} {f : List (List Bool)} (h : Stable simpleG 1 1 e f) : e = [true] := by
  have hv := validG_of simpleC
  have h1 := ((h.meant (hv.bounds (m := 1) (n := 1) rfl rfl)).1 0).2 (.of (g := simpleG) (q := ⟨0, []⟩) (by simp [simpleG]) (by simp))
  have h2 : e.length = 1 := h.shape.e
  match e, h2 with
  | [a], _ => simp at h1; rw [h1]

theorem RowsM.els {w : World} {bf : Nat} {bs : List Nat} {m n cf : Nat} {f : List (List Bool)} (h : RowsM w bf bs m n cf f) (hm : m ≤ 1000000) (S : Nat → Prop) (hS : ∀ b ∈ bf :: bs, S b) : Els w S f (some ⟨bf, 0, none⟩) := by
  refine fun _ => ⟨bf, 0, rfl, hS _ (by simp), fun i row hi => ?_⟩
  have hil : i < bs.length := by have := (List.getElem?_eq_some_iff.1 hi).1; have := h.flen; have := h.blen; omega
  obtain ⟨b, hb⟩ := get_some hil
  obtain ⟨h1, h2⟩ := h.rows i b row hb hi
  have hbb : S b := hS b (by simp [List.mem_of_getElem? hb])
  refine ⟨[rowSl b m], ⟨some ⟨b, 0, none⟩, m, by rw [h2]; rfl, by omega, by unfold maxLen; omega, fun _ => ⟨b, 0, rfl, hbb, fun j x hj => ⟨[.bool x], rfl, fun k u hu => ?_⟩⟩⟩, fun k u hu => ?_⟩
  · match k, hu with
    | 0, hu =>
      simp at hu; subst hu
      have e : 0 + j * Dat.size Bool + 0 = j := by show 0 + j * 1 + 0 = j; omega
      rw [e]
      exact (h1.cell j).trans (bcells_get hj)
  · match k, hu with
    | 0, hu =>
      simp at hu; subst hu
      have e : 0 + i * Dat.size (List Bool) + 0 = i := by show 0 + i * 1 + 0 = i; omega
      rw [e]
      exact h.outer i b hb
theorem els_brow {w : World} {S : Nat → Prop} {g : Nat} {t : TypeId} {ms : List Bool} (hb : Blk' w g t (bcells ms)) (hS : S g) : Els w S ms (some ⟨g, 0, none⟩) :=
  fun _ => ⟨g, 0, rfl, hS, fun i x hi => ⟨[.bool x], rfl, fun j u hu => by
    match j, hu with
    | 0, hu =>
      simp at hu; subst hu
      have e : 0 + i * Dat.size Bool + 0 = i := by show 0 + i * 1 + 0 = i; omega
      rw [e, hb.cell]
      exact bcells_get hi⟩⟩
theorem eq_trueB (A A' : Option Addr) (xs : List Bool) (n n' c c' : Nat) (S S' : Nat → Prop) (w : World) (hn : n = xs.length) (hn' : n' = xs.length) (hm : xs.length ≤ 9223372036854775807) (hA : Els w S xs A) (hA' : Els w S' xs A') :
    Calls Tryd.prog 17 #[.slice A n c, .slice A' n' c'] w fun e w' => e = .returned (.bool true) ∧ Below w.heap.size w w' :=
  (equalBool_any A A' xs xs n n' c c' S S' w hn hn' hm hm hA hA').mono fun e w' ⟨h1, h2⟩ => ⟨by rw [h1]; simp, h2⟩
theorem rows_trueB (A A' : Option Addr) (xs : List (List Bool)) (n n' c c' : Nat) (S S' : Nat → Prop) (w : World) (hn : n = xs.length) (hn' : n' = xs.length) (hm : xs.length ≤ 9223372036854775807) (hr : ∀ r ∈ xs, r.length ≤ 9223372036854775807) (hA : Els w S xs A) (hA' : Els w S' xs A') :
    Calls Tryd.prog 23 #[.slice A n c, .slice A' n' c'] w fun e w' => e = .returned (.bool true) ∧ Below w.heap.size w w' :=
  (sameRows_any A A' xs xs n n' c c' S S' w hn hn' hm hm hr hr hA hA').mono fun e w' ⟨h1, h2⟩ => ⟨by rw [h1]; simp, h2⟩

set_option maxRecDepth 100000 in
theorem says1_any (G : Nat) (t n s0 : Int) (A : Option Addr) (k c : Nat) (x : Sym) (w : World) (hG : Blk' w G 35 #[.int .i64 t, .int .i64 n, .int .i64 s0, .slice A k c]) :
    Calls Tryd.prog 25 #[.agg #[.bool x.term, .int .i64 x.n], .pointer (some ⟨G, 0, none⟩)] w fun e w' => e = .returned (.bool (!symIn t n x)) ∧ Below w.heap.size w w' := by
  obtain ⟨xt, xn⟩ := x
  dsimp only
  have g0 : w.cell? ⟨G, 0, none⟩ = some (.int .i64 t) := hG.cell 0
  have g1 : w.cell? ⟨G, 1, none⟩ = some (.int .i64 n) := hG.cell 1
  have g2 : w.cell? ⟨G, 2, none⟩ = some (.int .i64 s0) := hG.cell 2
  have g3 : w.cell? ⟨G, 3, none⟩ = some (.slice A k c) := hG.cell 3
  have zG := hG.lt
  have HBa : Hid (Below w.heap.size w (w.alloc (.cells #[.bool xt, .int .i64 xn] 50))) := Lib.hid ((Below.refl _ _).alloc (Nat.le_refl _) _)
  clear hG
  go_enter Tryd.func25, Tryd.ntmps25
  go_wp2_with fail
  refine (known_any t n s0 _ xt xn _ ⟨_, _, _, rfl⟩).mono ?_
  rintro e w1 ⟨rfl, hb1⟩
  have HB := Lib.hid (bthen HBa.out hb1 HBa.out.size)
  obtain ⟨v, hv⟩ : ∃ v, symIn t n ⟨xt, xn⟩ = v := ⟨_, rfl⟩
  rw [hv]
  have HV := Lib.hid hv
  clear hb1 hv
  go_wp2
  go_ret
  exact ⟨ret_bool (by rw [HV.out]), HB.out⟩

set_option maxRecDepth 100000 in
theorem says2_any (B b n : Nat) (nl : List Bool) (s : Sym) (w : World) (h1 : Blk' w B 37 #[.slice (some ⟨b, 0, none⟩) n n]) (h2 : Blk' w b 4 (bcells nl)) (hl : nl.length = n) (hs : 0 ≤ s.n ∧ (s.term = false → s.n.toNat < n)) :
    Calls Tryd.prog 27 #[.agg #[.bool s.term, .int .i64 s.n], .pointer (some ⟨B, 0, none⟩)] w fun e w' => e = .returned (.bool (s.term || !(nl.getD s.n.toNat false))) ∧ Below w.heap.size w w' := by
  obtain ⟨st, sn⟩ := s
  dsimp only at *
  obtain ⟨hs0, hs1⟩ := hs
  have b0 : w.cell? ⟨B, 0, none⟩ = some (.slice (some ⟨b, 0, none⟩) n n) := h1.cell 0
  have zB := h1.lt
  have zb := h2.lt
  cases st
  · have hs2 := hs1 rfl
    have hs3 : sn < (n : Int) := by omega
    obtain ⟨v, hv⟩ := get_some (show sn.toNat < nl.length by omega)
    have c0 : w.cell? ⟨b, sn.toNat, none⟩ = some (.bool v) := (h2.cell _).trans (bcells_get hv)
    have HE := Lib.hid (show nl.getD sn.toNat false = v by rw [List.getD_eq_getElem?_getD, hv]; rfl)
    clear hv h1 h2 hs1
    go_enter Tryd.func27, Tryd.ntmps27
    go_wp2
    go_ret
    exact ⟨ret_bool (by rw [HE.out]; rfl), (Below.refl _ _).alloc (Nat.le_refl _) _⟩
  · clear h1 h2 hs1
    go_enter Tryd.func27, Tryd.ntmps27
    go_wp2
    go_ret
    exact ⟨rfl, (Below.refl _ _).alloc (Nat.le_refl _) _⟩
end Go.Proofs.YtbboceklkjfimaaDoor
