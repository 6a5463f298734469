/- Contract: slices.Clone at ints: the row is the call's own. -/
import Derived.Test.YtpcjfgikicpioaaQp1
import Derived.Lib.SliceRun
namespace Go.Proofs.Ytpcjfgikicpioaa
open Go.RowKit
set_option linter.unusedVariables false

/-- Ints lead nowhere. -/
theorem Own.ints {w : World} {S : Nat → Prop} {base : Nat} {e : TypeId} {v : Value} {l : List Int} (h : Own w S base e v l) : OwnX w (fun _ => False) base e v l := by
  obtain ⟨css, h1, h2, h3⟩ := h
  exact ⟨css, h1, h2, fun i x cs hi hc => h3 i x cs hi hc, fun _ _ h => h, fun _ h => h.elim⟩
theorem Els.intFlat {w : World} {S S' : Nat → Prop} {l : List Int} {g o : Nat} (h : Els w S l (some ⟨g, o, none⟩)) (hg : S' g) : Els w S' l (some ⟨g, o, none⟩) := by
  intro hne
  obtain ⟨b, o', e, _, hx⟩ := h hne
  injection e with e
  injection e with e1 e2 _
  subst e1; subst e2
  exact ⟨g, o, rfl, hg, fun i x hi => by obtain ⟨cs, h1, h2⟩ := hx i x hi; exact ⟨cs, h1, h2⟩⟩
theorem two_mk {w : World} {B : Nat} {e1 e2 : TypeId} {v1 v2 : Value} {xs ys : List Int} (h1 : OwnX w (fun _ => False) B e1 v1 xs) (h2 : OwnX w (fun _ => False) B e2 v2 ys) (hd : ∀ k, v1.ownBlock = some k → v2.ownBlock ≠ some k) : Two w (fun _ => False) B e1 e2 v1 v2 xs ys :=
  ⟨h1.mono (fun _ h => h.elim) (fun k hk hb => hb.2.1 hk) (fun _ hb => hb.2.2.2), h2.mono (fun _ h => h.elim) (fun k hk hb => hb.2.2.1 hk) (fun _ hb => hb.2.2.2), hd⟩
theorem two_done {w2 wa w9 : World} {B : Nat} {e : TypeId} {v8 v9 v' : Value} {l m l' : List Int} (h8 : OwnX w2 (fun _ => False) B e v8 l) (hB : B ≤ w2.heap.size) (hb : Below w2.heap.size w2 wa) (h9 : OwnX wa (fun _ => False) w2.heap.size e v9 m) (hg : wa.grownBy w9 v9.ownBlock) (h' : OwnX w9 (fun _ => False) B e v' l') (hk' : ∀ k, v'.ownBlock = some k → w2.heap.size ≤ k) : Two w9 (fun _ => False) B e e v8 v' l l' ∧ Below w2.heap.size w2 w9 := by
  have h1 := (h8.below hb (Nat.le_refl _)).grown hg (fun k hk => ⟨fun e' => by have := (h8.block k e').2; have := (h9.block k hk).1; omega, fun h => h⟩)
  exact ⟨two_mk h1 h' (fun k hk e' => by have := (h8.block k hk).2; have := hk' k e'; omega), hb.grown hg hb.size (fun k hk => (h9.block k hk).1)⟩
theorem OwnX.lower {w : World} {T : Nat → Prop} {base base' : Nat} {e : TypeId} {v : Value} {α : Type} [Dat α] {xs : List α} (h : OwnX w T base e v xs) (hb : base' ≤ base) : OwnX w T base' e v xs := by
  obtain ⟨css, h1, h2⟩ := h
  refine ⟨css, ⟨h1.1, ?_⟩, h2⟩
  rcases h1.2 with h | ⟨g, cap, cur, e1, hg, hr⟩
  · exact .inl h
  · exact .inr ⟨g, cap, cur, e1, Nat.le_trans hb hg, hr⟩
theorem stepX_own1 {P : Program} (w : World) {T : Nat → Prop} {base : Nat} {α : Type} [Dat α] {ops : Array Oper} {o : Oper} {a : Act} {K : Act → World → Prop} {Q : Exit → Act → World → Prop} {E : Prop} (hgd : o.guard = none) (s xo : Operand) {t e : TypeId} {bytes : Nat} (hT : ElemT P α t e bytes)
    (ho : o.op = .call { callee := .builtin .append, args := #[s, xo], argTypes := #[t, t] })
    {v : Value} {xs : List α} (hs : a.eval s = v) (hown : OwnX w T base e v xs) (x : α) (cs : List Value) {g c : Nat} (hx : a.eval xo = .slice (some ⟨g, 0, none⟩) 1 c)
    (hat : At w g 0 cs) (hrd : Dat.rd w T x cs) (hlen : (xs.length + 1) * bytes ≤ 140737488355328) (hmax : xs.length + 1 ≤ 9223372036854775807) (hbase : base ≤ w.heap.size)
    (h : ∀ v' w', OwnX w' T base e v' (xs ++ [x]) → w.grownBy w' v.ownBlock → (v'.ownBlock = v.ownBlock ∨ v'.ownBlock = some w.heap.size) → K (a.put o.dst v') w') :
    if Region.wanted o (yielded ops a.tmps) = true then Oper.wp P o a w K Q else E := by
  have hw : Region.wanted o (yielded ops a.tmps) = true := by simp [Region.wanted, hgd]
  rw [if_pos hw]
  obtain ⟨v', w', hrun, h2, h3, h4⟩ := run_ownX1 (ty := o.type) (c := c) hT hown hat hrd hlen hmax hbase
  unfold Oper.wp execOp
  simp only [ho, resolve, invoke, builtin, Sem.run_bind, Sem.run_pure, Result.andThen_ok, List.map_toArray, List.map_cons, List.map_nil, hs, hx, hrun]
  exact h v' w' h2 h3 h4
set_option maxRecDepth 100000 in
set_option maxHeartbeats 2000000 in
theorem cloneIntO_any (l : List Int) (A : Option Addr) (c n : Nat) (S : Nat → Prop) (w : World) (hl : n = l.length) (h0 : l ≠ []) (hm : l.length ≤ 1000000) (hA : Els w S l A) (hS : ∀ b, S b → b < w.heap.size) :
    Calls Try.prog 54 #[.slice A n c] w fun e w' => ∃ v, e = .returned v ∧ OwnX w' (fun _ => False) w.heap.size 3 v l ∧ Below w.heap.size w w' := by
  subst hl
  have HA := Lib.hid hA
  have HS := Lib.hid hS
  have H0 := Lib.hid h0
  have q22 : ∀ (w : World) (a : Option Addr) (n c n' c' : Nat), (binOp .eql 25 (.slice a n c) (.slice none n' c')).run Try.prog w = .ok (.bool a.isNone) w := fun w a n c n' c' => Lib.run_eql_slice_nil w _ _ a n c n' c' Try.underlying25
  obtain ⟨b, o, rfl, hSb, _⟩ := hA h0
  clear hA hS h0
  have HB1 := Lib.hid ((Below.refl w.heap.size w).alloc (Nat.le_refl _) (.cells #[] 3))
  have HO := Lib.hid (Own.made (α := Int) (w := w) (fun b => b < w.heap.size) (base := w.heap.size) (e := 3) (cur := #[]) (cap := 0) (Nat.le_refl _) (by omega) rfl)
  have HE := Lib.hid ((HA.out.below HB1.out).keep (S' := OwnT (fun b => b < w.heap.size) w.heap.size (.slice (some ⟨w.heap.size, 0, none⟩) 0 0) (w.alloc (.cells #[] 3))) (fun _ _ _ => rfl) (fun b hb => by
    have h1 := HS.out b hb
    exact ⟨.inl h1, by simp [Value.ownBlock]; omega, by simp; omega⟩))
  go_enter Try.func54, Try.ntmps54
  go_wp2_with (at_builtin; refine wpList_ownMany _ rfl _ _ elemInt rfl rfl HO.out l rfl rfl HE.out (by simp; omega) (by simp; omega) (by simp) ?_; intro v' w' hown' hg' _)
  have HOw := Lib.hid hown'.ints
  have HBl := Lib.hid (bgrown HB1.out hg' HO.out (Nat.le_refl _) (by simp))
  clear hown' hg'
  go_wp2
  go_ret
  exact ⟨v', rfl, by simpa using HOw.out, HBl.out⟩
end Go.Proofs.Ytpcjfgikicpioaa
