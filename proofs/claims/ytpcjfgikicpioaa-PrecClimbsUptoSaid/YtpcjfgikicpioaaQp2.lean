/- Plain facts and definitions of this proof, of several texts joined: TwoReg, RegStage, StartsP, ClimbM, Take, Nodes, MirP, PrecOpen. -/
import Derived.Test.YtpcjfgikicpioaaQp1
import Derived.Maps.Own
import Derived.Maps.Views
/- Two rows side by side within one region that draws its order: the boxes of the elements, the appends, in any order. No program is named here. -/
namespace Go.Proofs.Ytpcjfgikicpioaa
open Go.RowKit
set_option linter.unusedVariables false

/-- The state within the region: w0 is the world at its start, whose blocks from zb to ze stay; bx the boxes made so far. -/
structure TwS {α β : Type} [Dat α] [Dat β] (B zb ze : Nat) (e1 e2 : TypeId) (w0 w : World) (v1 v2 : Value) (xs : List α) (ys : List β) (bx : List (Nat × List Value)) : Prop where
  two : Two w (fun _ => False) B e1 e2 v1 v2 xs ys
  r1 : ∀ k, v1.ownBlock = some k → k < zb ∨ ze ≤ k
  r2 : ∀ k, v2.ownBlock = some k → k < zb ∨ ze ≤ k
  hB : B ≤ zb ∧ zb ≤ ze ∧ ze ≤ w.heap.size
  bel : Below B w0 w
  mid : ∀ p : Addr, zb ≤ p.block → p.block < ze → w.cell? p = w0.cell? p
  box : ∀ p ∈ bx, 0 < p.2.length ∧ At w p.1 0 p.2 ∧ v1.ownBlock ≠ some p.1 ∧ v2.ownBlock ≠ some p.1
section
variable {α β : Type} [Dat α] [Dat β] {B zb ze : Nat} {e1 e2 : TypeId} {w0 w : World} {v1 v2 : Value} {xs : List α} {ys : List β} {bx : List (Nat × List Value)}
theorem TwS.start (h : Two w (fun _ => False) B e1 e2 v1 v2 xs ys) (h1 : ∀ k, v1.ownBlock = some k → k < zb) (h2 : ∀ k, v2.ownBlock = some k → k < zb) (hB : B ≤ zb) (hz : zb ≤ ze) (hz' : ze ≤ w.heap.size) : TwS B zb ze e1 e2 w w v1 v2 xs ys [] :=
  ⟨h, fun k hk => .inl (h1 k hk), fun k hk => .inl (h2 k hk), ⟨hB, hz, hz'⟩, Below.refl _ _, fun _ _ _ => rfl, fun p hp => by simp at hp⟩
theorem TwS.drew (h : TwS B zb ze e1 e2 w0 w v1 v2 xs ys bx) : TwS B zb ze e1 e2 w0 w.drew v1 v2 xs ys bx :=
  ⟨h.two.drew, h.r1, h.r2, h.hB, h.bel.drew, h.mid, h.box⟩
theorem TwS.swap (h : TwS B zb ze e1 e2 w0 w v1 v2 xs ys bx) : TwS B zb ze e2 e1 w0 w v2 v1 ys xs bx :=
  ⟨h.two.swap, h.r2, h.r1, h.hB, h.bel, h.mid, fun p hp => ⟨(h.box p hp).1, (h.box p hp).2.1, (h.box p hp).2.2.2, (h.box p hp).2.2.1⟩⟩
theorem TwS.below (h : TwS B zb ze e1 e2 w0 w v1 v2 xs ys bx) {w' : World} (hb : Below w.heap.size w w') : TwS B zb ze e1 e2 w0 w' v1 v2 xs ys bx := by
  have hs := hb.size
  have h4 := h.hB
  refine ⟨h.two.below hb (Nat.le_refl _), h.r1, h.r2, ⟨h4.1, h4.2.1, by omega⟩, h.bel.trans (hb.mono (by omega)), fun p hp hp' => (hb.cell (by omega)).trans (h.mid p hp hp'), fun p hp => ?_⟩
  obtain ⟨q1, q2, q3⟩ := h.box p hp
  exact ⟨q1, q2.keep (fun a ha => hb.cell (ha ▸ q2.lt q1)), q3⟩
theorem TwS.alloc (h : TwS B zb ze e1 e2 w0 w v1 v2 xs ys bx) (o : Obj) : TwS B zb ze e1 e2 w0 (w.alloc o) v1 v2 xs ys bx := h.below ((Below.refl _ _).alloc (Nat.le_refl _) o)
/-- A box more. -/
theorem TwS.boxed (h : TwS B zb ze e1 e2 w0 w v1 v2 xs ys bx) (cs : List Value) (t : TypeId) (hl : 0 < cs.length) : TwS B zb ze e1 e2 w0 (w.alloc (.cells cs.toArray t)) v1 v2 xs ys ((w.heap.size, cs) :: bx) := by
  have h' := h.alloc (.cells cs.toArray t)
  refine ⟨h'.two, h'.r1, h'.r2, h'.hB, h'.bel, h'.mid, fun p hp => ?_⟩
  rcases List.mem_cons.1 hp with rfl | hp
  · exact ⟨hl, At.new w cs t, fun e => by have := (h.two.1.block _ e).2; dsimp only at this; omega, fun e => by have := (h.two.2.1.block _ e).2; dsimp only at this; omega⟩
  · exact h'.box p hp
theorem TwS.app1 {P : Program} {o : Oper} {a : Act} {K : Act → World → Prop} {Q : Exit → Act → World → Prop} (h : TwS B zb ze e1 e2 w0 w v1 v2 xs ys bx) (s xo : Operand) {t : TypeId} {bytes : Nat} (hT : ElemT P α t e1 bytes)
    (ho : o.op = .call { callee := .builtin .append, args := #[s, xo], argTypes := #[t, t] }) (hs : a.eval s = v1) (x : α) (cs : List Value) {g c : Nat} (hx : a.eval xo = .slice (some ⟨g, 0, none⟩) 1 c)
    (hm : (g, cs) ∈ bx) {R : Nat → Prop} (hrd : Dat.rd w0 R x cs) (hR : ∀ b, R b → zb ≤ b ∧ b < ze) (hlen : (xs.length + 1) * bytes ≤ 140737488355328) (hmax : xs.length + 1 ≤ 9223372036854775807)
    (hk : ∀ v' w', TwS B zb ze e1 e2 w0 w' v' v2 (xs ++ [x]) ys bx → w.heap.size ≤ w'.heap.size → (∃ A' c', v' = .slice A' (xs.length + 1) c') → K (a.put o.dst v') w') : o.wp P a w K Q := by
  have h4 := h.hB
  have hrd' : Dat.rd w (T2 (fun _ => False) B v1 v2 w) x cs := Dat.keep (fun p hp _ => h.mid p (hR _ hp).1 (hR _ hp).2) (fun b hb => by
    have h5 := hR b hb
    exact ⟨.inr (by omega), fun e => by have := h.r1 b e; omega, fun e => by have := h.r2 b e; omega, by omega⟩) hrd
  refine wp_two1 w s xo hT ho hs h.two x cs hx (h.box _ hm).2.1 hrd' hlen hmax (by omega) fun v' w' h2 hg hat => hk v' w' ⟨h2, ?_, h.r2, ⟨h4.1, h4.2.1, by have := hg.size; omega⟩, h.bel.grown hg (by omega) (fun k hk => (h.two.1.block k hk).1), ?_, ?_⟩ hg.size ?_
  · intro k hk
    rcases hat with e | e
    · exact h.r1 k (e ▸ hk)
    · rw [hk] at e; injection e with e; omega
  · intro p hp hp'
    refine Eq.trans (World.cell?_of_block (hg.block p.block (by omega) (fun e => ?_))) (h.mid p hp hp')
    have := h.r1 _ e.symm
    omega
  · intro p hp
    obtain ⟨q1, q2, q3, q4⟩ := h.box p hp
    refine ⟨q1, q2.grown q1 hg (fun e => q3 e.symm), fun e => ?_, q4⟩
    rcases hat with e' | e'
    · exact q3 (e' ▸ e)
    · rw [e] at e'; injection e' with e'; have := q2.lt q1; omega
  · obtain ⟨A', c', e, _⟩ := h2.1.form
    rw [snoc_len] at e
    exact ⟨A', c', e⟩
theorem TwS.app2 {P : Program} {o : Oper} {a : Act} {K : Act → World → Prop} {Q : Exit → Act → World → Prop} (h : TwS B zb ze e1 e2 w0 w v1 v2 xs ys bx) (s xo : Operand) {t : TypeId} {bytes : Nat} (hT : ElemT P β t e2 bytes)
    (ho : o.op = .call { callee := .builtin .append, args := #[s, xo], argTypes := #[t, t] }) (hs : a.eval s = v2) (y : β) (cs : List Value) {g c : Nat} (hx : a.eval xo = .slice (some ⟨g, 0, none⟩) 1 c)
    (hm : (g, cs) ∈ bx) {R : Nat → Prop} (hrd : Dat.rd w0 R y cs) (hR : ∀ b, R b → zb ≤ b ∧ b < ze) (hlen : (ys.length + 1) * bytes ≤ 140737488355328) (hmax : ys.length + 1 ≤ 9223372036854775807)
    (hk : ∀ v' w', TwS B zb ze e1 e2 w0 w' v1 v' xs (ys ++ [y]) bx → w.heap.size ≤ w'.heap.size → (∃ A' c', v' = .slice A' (ys.length + 1) c') → K (a.put o.dst v') w') : o.wp P a w K Q :=
  h.swap.app1 s xo hT ho hs y cs hx hm hrd hR hlen hmax (fun v' w' h' hs' hf => hk v' w' h'.swap hs' hf)
end
end Go.Proofs.Ytpcjfgikicpioaa

/- A region that draws its order, by hand: the held condition S is wanted until operation d has come up, and no longer (so a region's own last stores may turn cells that its loads read). No program is named here. -/
namespace Go.Proofs.Ytpcjfgikicpioaa
open Go.RowKit
set_option linter.unusedVariables false

/-- Whatever order is picked; behind each operation ahead of d S holds. -/
def wpAnyD (P : Program) (md : Region.Mode) (ops : Array Oper) (Q : Exit → Act → World → Prop) (S : World → Prop) (d : Nat) : Nat → Array Bool → Act → World → Prop
  | 0, listed, a, w => Region.ready md ops listed = [] ∧ Q .normal a w
  | fuel + 1, listed, a, w =>
    (Region.ready md ops listed = [] → Q .normal a w) ∧
    ∀ i ∈ Region.ready md ops listed, wpOp P ops Q i (fun a' w' => (i ≠ d → listed.getD d false = false → S w') ∧ wpAnyD P md ops Q S d fuel (listed.setIfInBounds i true) a' w') a w
section
variable {P : Program} {ops : Array Oper} {Q : Exit → Act → World → Prop} {md : Region.Mode} {S : World → Prop} {d : Nat}
theorem wpAny_of_stage : ∀ (fuel : Nat) (listed : Array Bool) (a : Act) (w : World), wpAnyD P md ops Q S d fuel listed a w → wpAny P md ops Q fuel listed a w
  | 0, _, _, _, h => h
  | fuel + 1, _, _, _, h => ⟨h.1, fun i hi => wpOp_mono (fun a' w' h' => wpAny_of_stage fuel _ a' w' h'.2) (h.2 i hi)⟩
theorem wpAnyD_done {listed : Array Bool} {a : Act} {w : World} (hr : Region.ready md ops listed = []) (h : Q .normal a w) : ∀ fuel, wpAnyD P md ops Q S d fuel listed a w
  | 0 => ⟨hr, h⟩
  | _ + 1 => ⟨fun _ => h, by rw [hr]; simp⟩
theorem getD_other {l : Array Bool} {i j : Nat} (h : i ≠ j) (b : Bool) : (l.setIfInBounds i true).getD j b = l.getD j b := by
  simp only [Array.getD_eq_getD_getElem?]
  rw [Array.getElem?_setIfInBounds, if_neg h]
/-- An operation that d waits for, or one that yields in whatever world, may be taken first. -/
theorem wpAnyD_first {i : Nat} {oi : Oper} {v : Value} (hi : ops[i]? = some oi) (hsel : ∀ (j : Nat) (o : Oper) cs b, ops[j]? = some o → o.op ≠ .select cs b)
    (hQ : ∀ c a w, Q (.panic c) (a.put oi.dst v) w → Q (.panic c) a w) (hid : i ≠ d) (T : World → Prop)
    (hT : (∀ w, T w) ∨ ((∀ w, S w → T w) ∧ ∀ od, ops[d]? = some od → ∃ e ∈ od.after, Region.binds md e = true ∧ e.on = i)) :
    ∀ (fuel : Nat) (listed : Array Bool) (a : Act) (w : World),
      (∀ j oj, ops[j]? = some oj → j ≠ i → listed.getD j true = false → (∀ e ∈ oj.after, Region.binds md e = true → e.on ≠ i) → oi.apart ops oj = true) →
      i ∈ Region.ready md ops listed → YieldsIf P ops T oi v a → (listed.getD d false = false → S w) → ((∀ w, T w) ∨ listed.getD d false = false) →
      wpAnyD P md ops Q S d fuel (listed.setIfInBounds i true) (a.put oi.dst v) w → wpAnyD P md ops Q S d (fuel + 1) listed a w := by
  intro fuel
  induction fuel with
  | zero =>
    intro listed a w _ hr hy hS hl H
    refine ⟨fun h => (by rw [h] at hr; cases hr), fun j hj => ?_⟩
    by_cases hji : j = i
    · subst hji
      have hTw : T w := by
        rcases hT with h | h
        · exact h w
        · rcases hl with h' | h'
          · exact h' w
          · exact h.1 w (hS h')
      exact hy.wpOp hi hTw ⟨fun _ h => hS h, H⟩
    · have := ready_mono hj hji
      rw [H.1] at this
      cases this
  | succ fuel ih =>
    intro listed a w hfree hr hy hS hl H
    refine ⟨fun h => (by rw [h] at hr; cases hr), fun j hj => ?_⟩
    by_cases hji : j = i
    · subst hji
      have hTw : T w := by
        rcases hT with h | h
        · exact h w
        · rcases hl with h' | h'
          · exact h' w
          · exact h.1 w (hS h')
      exact hy.wpOp hi hTw ⟨fun _ h => hS h, H⟩
    · have h1 := H.2 j (ready_mono hj hji)
      obtain ⟨hjun, oj, hoj, hall⟩ := mem_ready.1 hj
      have hnot : ∀ e ∈ oj.after, Region.binds md e = true → e.on ≠ i := fun e he hb heq => by
        have h1 := hall e he hb
        have h0 := (mem_ready.1 hr).1
        rw [heq] at h1
        rcases Nat.lt_or_ge i listed.size with h' | h'
        · simp [h'] at h0 h1; rw [h0] at h1; cases h1
        · simp [Array.getElem?_eq_none h'] at h1
      have h2 := wpOp_putIf hoj (hfree j oj hoj hji hjun hnot) (fun cs b => hsel i oi cs b hi) (fun cs b => hsel j oj cs b hoj) hQ hy h1
      have hfree' : ∀ k ok, ops[k]? = some ok → k ≠ i → (listed.setIfInBounds j true).getD k true = false →
          (∀ e ∈ ok.after, Region.binds md e = true → e.on ≠ i) → oi.apart ops ok = true := fun k ok hk hki hun hno => by
        refine hfree k ok hk hki ?_ hno
        by_cases hjk : j = k
        · subst hjk; exact hjun
        · rw [getD_set_ne true hjk] at hun; exact hun
      have hgi : (listed.setIfInBounds i true).getD d false = listed.getD d false := getD_other hid false
      refine wpOp_mono (fun a' w' h3 => ?_) h2
      have hS' : j ≠ d → listed.getD d false = false → S w' := fun h h' => h3.2.1 h (by rw [hgi]; exact h')
      refine ⟨hS', ih (listed.setIfInBounds j true) a' w' hfree' (ready_mono hr (Ne.symm hji)) h3.1 ?_ ?_ ?_⟩
      · intro hd
        by_cases hjd : j = d
        · subst hjd
          have hlt : j < listed.size := by
            rcases Nat.lt_or_ge j listed.size with h | h
            · exact h
            · have := (mem_ready.1 hj).1
              simp [Array.getElem?_eq_none h] at this
          simp [Array.getD_eq_getD_getElem?, Array.getElem?_setIfInBounds, hlt] at hd
        · rw [getD_other hjd] at hd
          exact hS' hjd hd
      · rcases hl with h' | h'
        · exact .inl h'
        · rcases hT with h | h
          · exact .inl h
          · refine .inr ?_
            have hjd : j ≠ d := by
              rintro rfl
              obtain ⟨e, he, hb, hon⟩ := h.2 oj hoj
              exact hnot e he hb hon
            rw [getD_other hjd]
            exact h'
      · rw [Array.setIfInBounds_comm _ _ hji]
        exact h3.2.2
end
section
variable {P : Program} {l : List Oper} {Q : Exit → Act → World → Prop} {md : Region.Mode} {S : World → Prop} {d : Nat}
theorem stage_start {id : Nat} {a : Act} {w : World} (d : Nat) (hm : P.follows .mixedOrders = true) (hS : S w.drew)
    (h : S w.drew → wpAnyD P .any l.toArray Q S d l.toArray.size (Array.replicate l.toArray.size false) a w.drew) : (Code.region id l.toArray true).wp P Q a w :=
  wp_region_any hm (wpAny_of_stage _ _ _ _ (h hS))
/-- Does operation d wait for operation i? -/
def waitsB (md : Region.Mode) (ops : Array Oper) (d i : Nat) : Bool := match ops[d]? with
  | some od => od.after.any fun e => Region.binds md e && e.on == i
  | none => true
theorem waitsB_spec {ops : Array Oper} {i : Nat} (h : waitsB md ops d i = true) : ∀ od, ops[d]? = some od → ∃ e ∈ od.after, Region.binds md e = true ∧ e.on = i := by
  intro od ho
  unfold waitsB at h
  rw [ho] at h
  obtain ⟨e, he, h⟩ := Array.any_eq_true'.1 h
  simp only [Bool.and_eq_true, beq_iff_eq] at h
  exact ⟨e, he, h⟩
/-- A load ahead of d. -/
theorem st_run {i : Nat} {oi : Oper} {rest : List Oper} {v : Value} {fuel : Nat} {listed : Array Bool} {a : Act} {w : World} (hi : l.drop i = oi :: rest)
    (hs : Region.noSelect l.toArray = true) (hf : Region.free md l.toArray listed i = true) (hr : (Region.ready md l.toArray listed).contains i = true) (hid : (i != d && waitsB md l.toArray d i && !listed.getD d false) = true)
    (hQ : ∀ c a w, Q (.panic c) (a.put oi.dst v) w → Q (.panic c) a w) (hw : Region.wanted oi (yielded l.toArray a.tmps) = true) (hy : ∀ w, S w → (execOp a.eval oi).run P w = .ok (.value v) w) (hS : S w)
    (h : wpAnyD P md l.toArray Q S d fuel (listed.setIfInBounds i true) (a.put oi.dst v) w) : wpAnyD P md l.toArray Q S d (fuel + 1) listed a w := by
  simp only [Bool.and_eq_true, bne_iff_ne, Bool.not_eq_true'] at hid
  exact wpAnyD_first (drop_get hi) (Region.noSelect_spec hs) hQ hid.1.1 S (.inr ⟨fun _ h => h, waitsB_spec hid.1.2⟩) fuel listed a w (Region.free_spec (drop_get hi) hf) (by simpa using hr) (.inl ⟨hw, hy⟩) (fun _ => hS) (.inr hid.2) h
/-- An operation that yields in whatever world. -/
theorem st_pure {i : Nat} {oi : Oper} {rest : List Oper} {v : Value} {fuel : Nat} {listed : Array Bool} {a : Act} {w : World} (hi : l.drop i = oi :: rest)
    (hs : Region.noSelect l.toArray = true) (hf : Region.free md l.toArray listed i = true) (hr : (Region.ready md l.toArray listed).contains i = true) (hid : (i != d) = true)
    (hQ : ∀ c a w, Q (.panic c) (a.put oi.dst v) w → Q (.panic c) a w) (hw : Region.wanted oi (yielded l.toArray a.tmps) = true) (hy : ∀ w, (execOp a.eval oi).run P w = .ok (.value v) w) (hS : S w ∨ listed.getD d false = true)
    (h : wpAnyD P md l.toArray Q S d fuel (listed.setIfInBounds i true) (a.put oi.dst v) w) : wpAnyD P md l.toArray Q S d (fuel + 1) listed a w := by
  refine wpAnyD_first (drop_get hi) (Region.noSelect_spec hs) hQ (by simpa using hid) (fun _ => True) (.inl fun _ => trivial) fuel listed a w (Region.free_spec (drop_get hi) hf) (by simpa using hr) (.inl ⟨hw, fun w _ => hy w⟩) (fun h => ?_) (.inl fun _ => trivial) h
  rcases hS with hS | hS
  · exact hS
  · rw [h] at hS; cases hS
theorem st_ready {rs : List Nat} {fuel : Nat} {listed : Array Bool} {a : Act} {w : World} (hr : Region.ready md l.toArray listed = rs) (hne : rs ≠ [])
    (h : ∀ i ∈ rs, ∃ o, l.toArray[i]? = some o ∧ Region.wanted o (yielded l.toArray a.tmps) = true ∧ ∀ K' : Act → World → Prop, Shut (∀ a w, (i ≠ d → listed.getD d false = false → S w) → wpAnyD P md l.toArray Q S d fuel (listed.setIfInBounds i true) a w → K' a w) → Oper.wp P o a w K' Q) :
    wpAnyD P md l.toArray Q S d (fuel + 1) listed a w := by
  refine ⟨fun h0 => absurd (hr ▸ h0) hne, hr ▸ fun i hi => ?_⟩
  obtain ⟨o, ho, hw, h⟩ := h i hi
  refine wpOp_step ho fun K' hK => ?_
  rw [if_pos hw]
  exact h K' fun a w h1 h2 => hK a w ⟨h1, h2⟩
/-- The one operation that may come up, ahead of d. -/
theorem st_one {i : Nat} {o : Oper} {rest : List Oper} {fuel : Nat} {listed : Array Bool} {a : Act} {w : World} (hi : l.drop i = o :: rest) (hr : Region.ready md l.toArray listed = [i]) (hw : Region.wanted o (yielded l.toArray a.tmps) = true)
    (h : ∀ K' : Act → World → Prop, Shut (∀ a w, S w → (S w → wpAnyD P md l.toArray Q S d fuel (listed.setIfInBounds i true) a w) → K' a w) → Oper.wp P o a w K' Q) : wpAnyD P md l.toArray Q S d (fuel + 1) listed a w := by
  refine st_ready hr (by simp) fun j hj => ?_
  obtain rfl := List.mem_singleton.1 hj
  exact ⟨o, drop_get hi, hw, fun K' hK => h K' fun a w hS hW => hK.out a w (fun _ _ => hS) (hW hS)⟩
/-- The one operation that may come up, d itself or one behind it: S is wanted no longer. -/
theorem st_late {i : Nat} {o : Oper} {rest : List Oper} {fuel : Nat} {listed : Array Bool} {a : Act} {w : World} (hi : l.drop i = o :: rest) (hr : Region.ready md l.toArray listed = [i]) (hw : Region.wanted o (yielded l.toArray a.tmps) = true) (hd : (i == d || listed.getD d false) = true)
    (h : ∀ K' : Act → World → Prop, Shut (∀ a w, wpAnyD P md l.toArray Q S d fuel (listed.setIfInBounds i true) a w → K' a w) → Oper.wp P o a w K' Q) : wpAnyD P md l.toArray Q S d (fuel + 1) listed a w := by
  refine st_ready hr (by simp) fun j hj => ?_
  obtain rfl := List.mem_singleton.1 hj
  refine ⟨o, drop_get hi, hw, fun K' hK => h K' fun a w hW => hK.out a w (fun h1 h2 => ?_) hW⟩
  rw [Bool.or_eq_true] at hd
  rcases hd with hd | hd
  · exact absurd (by simpa using hd) h1
  · rw [h2] at hd; cases hd
/-- Two operations that may come up, ahead of d. -/
theorem st_two {i j : Nat} {o o' : Oper} {rest rest' : List Oper} {fuel : Nat} {listed : Array Bool} {a : Act} {w : World} (hi : l.drop i = o :: rest) (hj : l.drop j = o' :: rest') (hr : Region.ready md l.toArray listed = [i, j]) (hwi : Region.wanted o (yielded l.toArray a.tmps) = true) (hwj : Region.wanted o' (yielded l.toArray a.tmps) = true)
    (h1 : ∀ K' : Act → World → Prop, Shut (∀ a w, S w → (S w → wpAnyD P md l.toArray Q S d fuel (listed.setIfInBounds i true) a w) → K' a w) → Oper.wp P o a w K' Q)
    (h2 : ∀ K' : Act → World → Prop, Shut (∀ a w, S w → (S w → wpAnyD P md l.toArray Q S d fuel (listed.setIfInBounds j true) a w) → K' a w) → Oper.wp P o' a w K' Q) : wpAnyD P md l.toArray Q S d (fuel + 1) listed a w := by
  refine st_ready hr (by simp) fun k hk => ?_
  rcases List.mem_cons.1 hk with rfl | hk
  · exact ⟨o, drop_get hi, hwi, fun K' hK => h1 K' fun a w hS hW => hK.out a w (fun _ _ => hS) (hW hS)⟩
  · obtain rfl := List.mem_singleton.1 hk
    exact ⟨o', drop_get hj, hwj, fun K' hK => h2 K' fun a w hS hW => hK.out a w (fun _ _ => hS) (hW hS)⟩
end
end Go.Proofs.Ytpcjfgikicpioaa

/- Plain law: the beginnings of words, by what closes them; where the climber rejects a word. No program is named here. -/
namespace Go.Proofs.Ytpcjfgikicpioaa
open Go.RowKit
set_option linter.unusedVariables false

/-- What one terminal opens. -/
def net1 (t : Table) (x : Int) : Int := (if t.opn ≠ -1 ∧ x = t.opn then 1 else 0) - (if t.opn ≠ -1 ∧ x = t.cls then 1 else 0)
def netW (t : Table) : List Int → Int
  | [] => 0
  | x :: xs => net1 t x + netW t xs
theorem netW_app (t : Table) : ∀ a b : List Int, netW t (a ++ b) = netW t a + netW t b
  | [], b => by simp [netW]
  | x :: a, b => by rw [List.cons_append, netW, netW, netW_app t a b]; omega
def clos (t : Table) (n : Int) : List Int := List.replicate n.toNat t.cls
theorem clos_succ {t : Table} {n : Int} (h : 0 ≤ n) : clos t (1 + n) = clos t n ++ [t.cls] := by
  unfold clos
  rw [show (1 + n).toNat = n.toNat + 1 by omega, List.replicate_succ']
/-- A list that becomes a word with closing marks, or with an operand and closing marks. -/
def Comp (t : Table) (k : Nat) (s : List Int) : Prop := (∃ x, Lv t k x (s ++ clos t (netW t s))) ∨ (∃ x, Lv t k x (s ++ t.atom :: clos t (netW t s)))
theorem Comp.le {t : Table} {k j : Nat} {s : List Int} (h : Comp t k s) (hj : j ≤ k) : Comp t j s := h.imp (fun ⟨x, h⟩ => ⟨x, h.le hj⟩) (fun ⟨x, h⟩ => ⟨x, h.le hj⟩)
theorem Comp.nil (t : Table) (k : Nat) : Comp t k [] := .inr ⟨_, by simpa [netW, clos] using Lv.atom k⟩
structure Marks (t : Table) : Prop where
  ap : Apart t
  b : brk t = decide (t.opn ≠ -1)
  ac : brk t = true → t.atom ≠ t.cls
  oc : brk t = true → t.opn ≠ t.cls
theorem Valid.marks {t : Table} (hv : Valid t) : Marks t := by
  refine ⟨hv.apart, hv.hbrk, fun hb e => ?_, fun hb e => ?_⟩
  · have h := (List.nodup_cons.1 hv.nodup).1
    rw [e] at h
    exact h (by unfold allOps; rw [if_pos hb]; simp)
  · have h := (List.nodup_cons.1 hv.nodup).2
    unfold allOps at h
    rw [if_pos hb, e] at h
    simp at h
theorem net_plain {t : Table} {x : Int} (h : brk t = true → x ≠ t.opn ∧ x ≠ t.cls) (hb : brk t = decide (t.opn ≠ -1)) : net1 t x = 0 := by
  unfold net1
  by_cases ho : t.opn = -1
  · rw [if_neg (fun h => h.1 ho), if_neg (fun h => h.1 ho)]; rfl
  · have hb' : brk t = true := by rw [hb]; simpa using ho
    rw [if_neg (fun h' => (h hb').1 h'.2), if_neg (fun h' => (h hb').2 h'.2)]; rfl
theorem Marks.atom {t : Table} (m : Marks t) : net1 t t.atom = 0 := net_plain (fun hb => ⟨m.ap.ao hb, m.ac hb⟩) m.b
theorem Marks.op {t : Table} (m : Marks t) {i : Nat} {l : Level} {op : Int} (hl : t.levels[i]? = some l) (ho : op ∈ l.ops) : net1 t op = 0 :=
  net_plain (fun hb => ⟨fun e => m.ap.opn hb i l hl (e ▸ ho), fun e => m.ap.cls hb i l hl (e ▸ ho)⟩) m.b
theorem Marks.opn {t : Table} (m : Marks t) (hb : brk t = true) : net1 t t.opn = 1 := by
  have ho : t.opn ≠ -1 := by have := m.b; rw [hb] at this; simpa using this.symm
  unfold net1
  rw [if_pos ⟨ho, rfl⟩, if_neg (fun h => m.oc hb h.2)]; rfl
theorem Marks.cls {t : Table} (m : Marks t) (hb : brk t = true) : net1 t t.cls = -1 := by
  have ho : t.opn ≠ -1 := by have := m.b; rw [hb] at this; simpa using this.symm
  unfold net1
  rw [if_neg (fun h => m.oc hb h.2.symm), if_pos ⟨ho, rfl⟩]; rfl
theorem Lv.net {t : Table} (m : Marks t) {k : Nat} {x : Tree} {u : List Int} (h : Lv t k x u) : netW t u = 0 := by
  induction h with
  | atom k => simp [netW, m.atom]
  | brk k hb x u h ih => rw [netW, netW_app, ih, m.opn hb]; simp [netW, m.cls hb]
  | pre k i l op y v hk hl h3 ho hy ih => rw [netW, ih, m.op hl ho]; rfl
  | inf k i l op x y u v hk hl h3 ho hx hy ihx ihy => rw [netW_app, netW, ihx, ihy, m.op hl ho]; rfl
theorem Lv.comp {t : Table} (m : Marks t) {k : Nat} {x : Tree} {u : List Int} (h : Lv t k x u) : Comp t k u := .inl ⟨x, by rw [h.net m]; simpa [clos] using h⟩
/-- A beginning of a word is closed so. -/
theorem Lv.start {t : Table} (m : Marks t) {k : Nat} {x : Tree} {u : List Int} (h : Lv t k x u) : ∀ s r, u = s ++ r → 0 ≤ netW t s ∧ Comp t k s := by
  induction h with
  | atom k =>
    intro s r e
    match s, e with
    | [], _ => exact ⟨by simp [netW], Comp.nil t k⟩
    | a :: s, e =>
      simp at e
      obtain ⟨rfl, e⟩ := e
      have : s = [] := e.1
      subst this
      exact ⟨by simp [netW, m.atom], (Lv.atom k).comp m⟩
  | brk k hb x u h ih =>
    intro s r e
    match s, e with
    | [], _ => exact ⟨by simp [netW], Comp.nil t k⟩
    | a :: s, e =>
      rw [List.cons_append] at e
      injection e with e1 e2
      subst e1
      rcases List.append_eq_append_iff.1 e2 with ⟨a', rfl, e3⟩ | ⟨c', rfl, e3⟩
      · -- s = u ++ a', [cls] = a' ++ r
        match a', e3 with
        | [], _ =>
          have hn := h.net m
          rw [List.append_nil] at *
          refine ⟨by rw [netW, m.opn hb, hn]; omega, .inl ⟨⟨1, 0, [leafT t.opn, x, leafT t.cls]⟩, ?_⟩⟩
          rw [netW, m.opn hb, hn, clos_succ (Int.le_refl _)]
          have := Lv.brk k hb x u h
          simpa [clos] using this
        | b :: a', e3 =>
          simp at e3
          obtain ⟨rfl, e3⟩ := e3
          have : a' = [] := e3.1
          subst this
          exact ⟨by rw [netW, netW_app, m.opn hb, h.net m]; simp [netW, m.cls hb], (Lv.brk k hb x u h).comp m⟩
      · -- u = s ++ c'
        obtain ⟨i1, i2⟩ := ih s c' rfl
        refine ⟨by rw [netW, m.opn hb]; omega, ?_⟩
        rcases i2 with ⟨y, hy⟩ | ⟨y, hy⟩
        · refine .inl ⟨⟨1, 0, [leafT t.opn, y, leafT t.cls]⟩, ?_⟩
          rw [netW, m.opn hb, clos_succ i1]
          have := Lv.brk k hb y _ hy
          simpa using this
        · refine .inr ⟨⟨1, 0, [leafT t.opn, y, leafT t.cls]⟩, ?_⟩
          rw [netW, m.opn hb, clos_succ i1]
          have := Lv.brk k hb y _ hy
          simpa using this
  | pre k i l op y v hk hl h3 ho hy ih =>
    intro s r e
    match s, e with
    | [], _ => exact ⟨by simp [netW], Comp.nil t k⟩
    | a :: s, e =>
      rw [List.cons_append] at e
      injection e with e1 e2
      subst e1
      obtain ⟨i1, i2⟩ := ih s r e2
      have hn : netW t (op :: s) = netW t s := by rw [netW, m.op hl ho]; omega
      refine ⟨by rw [hn]; exact i1, ?_⟩
      unfold Comp
      rw [hn]
      exact i2.imp (fun ⟨z, hz⟩ => ⟨⟨rulOf t op, 0, [leafT op, z]⟩, Lv.pre k i l op z _ hk hl h3 ho hz⟩) (fun ⟨z, hz⟩ => ⟨⟨rulOf t op, 0, [leafT op, z]⟩, Lv.pre k i l op z _ hk hl h3 ho hz⟩)
  | inf k i l op x y u v hk hl h3 ho hx hy ihx ihy =>
    intro s r e
    rcases List.append_eq_append_iff.1 e with ⟨a', rfl, e3⟩ | ⟨c', rfl, e3⟩
    · match a', e3 with
      | [], _ =>
        rw [List.append_nil] at *
        exact ⟨by rw [hx.net m]; omega, (hx.comp m).le (by split <;> omega)⟩
      | b :: a', e3 =>
        rw [List.cons_append] at e3
        injection e3 with e4 e5
        subst e4
        obtain ⟨i1, i2⟩ := ihy a' r e5
        have hn : netW t (u ++ op :: a') = netW t a' := by rw [netW_app, hx.net m, netW, m.op hl ho]; omega
        refine ⟨by rw [hn]; exact i1, ?_⟩
        unfold Comp
        rw [hn]
        refine i2.imp (fun ⟨z, hz⟩ => ⟨⟨rulOf t op, 0, [x, leafT op, z]⟩, ?_⟩) (fun ⟨z, hz⟩ => ⟨⟨rulOf t op, 0, [x, leafT op, z]⟩, ?_⟩)
        · have := Lv.inf k i l op x z _ _ hk hl h3 ho hx hz
          simpa using this
        · have := Lv.inf k i l op x z _ _ hk hl h3 ho hx hz
          simpa using this
    · obtain ⟨i1, i2⟩ := ihx s c' rfl
      exact ⟨i1, i2.le (by split <;> omega)⟩

/-! ### The climber's answer -/
theorem parE_said {t : Table} {w : List Int} {r : Res} (h : ParE t w 0 0 r) : Said t w 0 0 r := by
  obtain ⟨n, h⟩ := h
  exact par_said n 0 0 r h (Nat.zero_le _)
theorem parE_same {t : Table} (m : Marks t) {w v : List Int} {r r' : Res} (h : ParE t w 0 0 r) (h' : ParE t v 0 0 r') (ha : Alike w v (endR r)) : r = r' := by
  obtain ⟨n, h⟩ := h
  obtain ⟨k, h'⟩ := h'
  exact par_same m.ap.ao n k 0 0 r r' h h' ha
/-- The word is rejected at q. -/
def RejAt (w : List Int) (q : Nat) : Res → Prop
  | .ok _ p => p = q ∧ p < w.length
  | .rej p => p = q
theorem lv_acc {t : Table} {w : List Int} {x : Tree} (h : ParE t w 0 0 (.ok x w.length)) : Lv t 0 x w := by
  have := (parE_said h).2.2
  rwa [seg_all] at this
theorem lv_uniq {t : Table} (hv : Valid t) {w : List Int} {x y : Tree} (h : Lv t 0 x w) (h' : Lv t 0 y w) : x = y := by
  have := parE_same hv.marks (h.par hv) (h'.par hv) (fun _ _ => rfl)
  injection this
theorem rej_none {t : Table} (hv : Valid t) {w : List Int} {q : Nat} {r : Res} (h : ParE t w 0 0 r) (hr : RejAt w q r) (x : Tree) : ¬ Lv t 0 x w := by
  intro hx
  have := parE_same hv.marks h (hx.par hv) (fun _ _ => rfl)
  subst this
  have := hr.2
  omega
theorem rej_le {t : Table} {w : List Int} {q : Nat} {r : Res} (h : ParE t w 0 0 r) (hr : RejAt w q r) : q ≤ w.length := by
  cases r with
  | ok x p => have h1 := hr.1; have h2 := hr.2; omega
  | rej p => have h1 : p = q := hr; have := (parE_said h).2.1; omega
theorem rej_comp {t : Table} (hv : Valid t) {w : List Int} {q : Nat} {r : Res} (h : ParE t w 0 0 r) (hr : RejAt w q r) {m : Nat} (hm : m ≤ q) : Comp t 0 (w.take m) := by
  have key : ∃ x z, Lv t 0 x (w.take q ++ z) := by
    cases r with
    | ok x p =>
      obtain ⟨rfl, _⟩ := hr
      have h3 := (parE_said h).2.2
      rw [seg_zero] at h3
      exact ⟨x, [], by simpa using h3⟩
    | rej p =>
      have hp : p = q := hr
      subst hp
      obtain ⟨_, _, x, z, h3⟩ := parE_said h
      rw [seg_zero] at h3
      exact ⟨x, z, h3⟩
  obtain ⟨x, z, hx⟩ := key
  refine (hx.start hv.marks (w.take m) ((w.take q).drop m ++ z) ?_).2
  rw [← List.append_assoc]
  congr 1
  rw [show w.take m = (w.take q).take m by rw [List.take_take, Nat.min_eq_left hm], List.take_append_drop]
theorem rej_stop {t : Table} (hv : Valid t) {w : List Int} {q : Nat} {r : Res} (h : ParE t w 0 0 r) (hr : RejAt w q r) (hq : q < w.length) : ¬ Comp t 0 (w.take (q + 1)) := by
  have key : ∀ x z, ¬ Lv t 0 x (w.take (q + 1) ++ z) := by
    intro x z hx
    have he : endR r = q := by
      cases r with
      | ok x p => exact hr.1
      | rej p => exact hr
    have := parE_same hv.marks h (hx.par hv) (fun i hi => by
      rw [he] at hi
      rw [List.getElem?_append_left (by rw [List.length_take]; omega), List.getElem?_take_of_lt (by omega)])
    subst this
    have h1 := hr.1
    rw [List.length_append, List.length_take] at h1
    omega
  rintro (⟨x, hx⟩ | ⟨x, hx⟩)
  · exact key x _ hx
  · exact key x _ hx
end Go.Proofs.Ytpcjfgikicpioaa

/- The map of the rules' numbers, as a datum; the rows of the flat grammar by their place. -/
namespace Go.Proofs.Ytpcjfgikicpioaa
open Go.RowKit
set_option linter.unusedVariables false

/-- Of the first j rules those of operators are in the map. -/
def MapOk (t : Table) (j : Nat) (D : DataW Unit) : Prop := Maps.IsMap D ∧ ∀ (m : Nat) (op : Int), (opsL t)[m]? = some op → baseN t + m < j → D.atKey (.int .i64 op) (.lit (.int .i64 0)) = .lit (.int .i64 ((baseN t + m : Nat) : Int))
theorem MapOk.low {t : Table} {j : Nat} {D : DataW Unit} (h : MapOk t j D) (hj : j < baseN t) : MapOk t (j + 1) D :=
  ⟨h.1, fun m op hm hl => h.2 m op hm (by omega)⟩
theorem lit_int_ne {a b : Int} (h : a ≠ b) : (Lit.int .i64 a) ≠ Lit.int .i64 b := fun e => h (Lit.int.inj e).2
theorem MapOk.put {t : Table} {m : Nat} {D : DataW Unit} {op : Int} (hv : Valid t) (h : MapOk t (baseN t + m) D) (hm : (opsL t)[m]? = some op) : MapOk t (baseN t + m + 1) (D.put (.int .i64 op) (.lit (.int .i64 ((baseN t + m : Nat) : Int)))) := by
  refine ⟨h.1.put _ _, fun m' op' hm' hl => ?_⟩
  by_cases e : op' = op
  · subst e
    have e1 := idx_of_nodup (opsL t) m op' hv.opsN hm
    have e2 := idx_of_nodup (opsL t) m' op' hv.opsN hm'
    rw [Maps.atKey_put_same h.1 (show WideAt.IsKeyLit (.int .i64 op') from trivial)]
    rw [show m' = m by omega]
  · rw [Maps.atKey_put_other (lit_int_ne e)]
    refine h.2 m' op' hm' ?_
    rcases Nat.lt_or_ge m' m with h1 | h1
    · omega
    · have : m' = m := by omega
      subst this
      rw [hm] at hm'
      injection hm' with e'
      exact absurd e'.symm e
theorem flatR_len (t : Table) : (flatRules t).length = baseN t + (opsL t).length := by
  unfold flatRules baseN opsL
  cases brk t
  · simp only [Bool.false_eq_true, if_false, List.nil_append, List.length_cons, levRules_len]; omega
  · simp only [if_true, List.cons_append, List.nil_append, List.length_cons, levRules_len]; omega
theorem MapOk.all {t : Table} {D : DataW Unit} (h : MapOk t (flatRules t).length D) : ∀ op ∈ opsL t, D.atKey (.int .i64 op) (.lit (.int .i64 0)) = .lit (.int .i64 (rulOf t op)) := by
  intro op ho
  have h1 : (opsL t).idxOf op < (opsL t).length := List.idxOf_lt_length_of_mem ho
  have h2 : (opsL t)[(opsL t).idxOf op]? = some op := by rw [List.getElem?_eq_getElem h1, List.getElem_idxOf]
  exact h.2 _ op h2 (by rw [flatR_len]; omega)
/-- A rule of the flat grammar by its place. -/
theorem flat_kind (t : Table) (j : Nat) (q : Rule) (h : (flatRules t)[j]? = some q) : (j < baseN t ∧ (flatLev t)[j]? = some (t.levels.length : Int)) ∨
    ∃ (m i : Nat) (op : Int), j = baseN t + m ∧ (opsL t)[m]? = some op ∧ (flatLev t)[j]? = some (i : Int) ∧ i < t.levels.length ∧ 2 ≤ q.right.length ∧ q.right.length ≤ 3 ∧ q.right[q.right.length - 2]? = some ⟨true, op⟩ := by
  have hop : ∀ m : Nat, ((t.levels.map levRules).flatten)[m]? = some q → (flatLev t)[j]? = (levFrom 0 t.levels)[m]? → j = baseN t + m → ∃ (m i : Nat) (op : Int), j = baseN t + m ∧ (opsL t)[m]? = some op ∧ (flatLev t)[j]? = some (i : Int) ∧ i < t.levels.length ∧ 2 ≤ q.right.length ∧ q.right.length ≤ 3 ∧ q.right[q.right.length - 2]? = some ⟨true, op⟩ := by
    intro m hm hfl hi
    obtain ⟨i, l, op, g1, g2, g3, g4, g5⟩ := lev_getO t.levels 0 m q hm
    refine ⟨m, i, op, hi, g5, by rw [hfl, g1]; simp, (List.getElem?_eq_some_iff.1 g2).1, ?_⟩
    subst g4
    unfold opRule
    dsimp only
    split <;> simp
  unfold flatRules at h
  match j, h, hop with
  | 0, h, _ =>
    left
    exact ⟨by unfold baseN; split <;> omega, rfl⟩
  | j + 1, h, hop =>
    simp only [List.getElem?_cons_succ] at h
    cases hb : brk t
    · rw [hb] at h
      simp only [Bool.false_eq_true, if_false, List.nil_append] at h
      exact .inr (hop j h (by unfold flatLev; rw [hb]; simp) (by unfold baseN; rw [hb]; simp; omega))
    · rw [hb] at h
      simp only [if_true, List.cons_append, List.nil_append] at h
      match j, h, hop with
      | 0, h, _ =>
        left
        exact ⟨by unfold baseN; rw [hb]; simp, by unfold flatLev; rw [hb]; rfl⟩
      | j + 1, h, hop =>
        simp only [List.getElem?_cons_succ] at h
        exact .inr (hop j h (by unfold flatLev; rw [hb]; simp) (by unfold baseN; rw [hb]; simp; omega))
end Go.Proofs.Ytpcjfgikicpioaa

/- Lists alike up to a place. -/
namespace Go.Proofs.Ytpcjfgikicpioaa
open Go.RowKit
set_option linter.unusedVariables false

theorem take_ne {α : Type} {xs ys : List α} {k : Nat} {x y : α} (hx : xs[k]? = some x) (hy : ys[k]? = some y) (h : x ≠ y) : xs ≠ ys := by
  rintro rfl; rw [hx] at hy; exact h (by injection hy)
theorem take_eq {α : Type} {xs ys : List α} {k : Nat} {x y : α} (hx : xs[k]? = some x) (hy : ys[k]? = some y) (h : x = y) (ht : xs.take k = ys.take k) : xs.take (k + 1) = ys.take (k + 1) := by
  rw [take_snoc hx, take_snoc hy, ht, h]
theorem take_all {α : Type} {xs ys : List α} {k : Nat} (hl : xs.length = ys.length) (hk : xs.length ≤ k) (ht : xs.take k = ys.take k) : xs = ys := by
  rwa [List.take_of_length_le hk, List.take_of_length_le (by omega)] at ht
end Go.Proofs.Ytpcjfgikicpioaa

/- How many nodes a tree has. No program is named here. -/
namespace Go.Proofs.Ytpcjfgikicpioaa
set_option linter.unusedVariables false

mutual
def nodesT : Tree → Nat
  | ⟨_, _, ks⟩ => 1 + nodesL ks
def nodesL : List Tree → Nat
  | [] => 0
  | k :: ks => nodesT k + nodesL ks
end
theorem nodesL_append : ∀ (a b : List Tree), nodesL (a ++ b) = nodesL a + nodesL b
  | [], b => by simp [nodesL]
  | x :: a, b => by simp only [List.cons_append, nodesL, nodesL_append a b]; omega
theorem yields_append : ∀ (a b : List Tree), yields (a ++ b) = yields a ++ yields b
  | [], b => by simp [yields]
  | x :: a, b => by simp only [List.cons_append, yields, yields_append a b, List.append_assoc]
theorem len_nodes : ∀ (a : List Tree), a.length ≤ nodesL a
  | [] => by simp [nodesL]
  | ⟨r, t, ks⟩ :: a => by have := len_nodes a; simp only [List.length_cons, nodesL, nodesT]; omega
mutual
theorem yield_nodes : ∀ (t : Tree), (yieldT t).length ≤ nodesT t
  | ⟨r, t, ks⟩ => by
    unfold yieldT nodesT
    split
    · simp
    · have := yields_nodes ks; omega
theorem yields_nodes : ∀ (ks : List Tree), (yields ks).length ≤ nodesL ks
  | [] => by simp [yields]
  | k :: ks => by
    have := yield_nodes k
    have := yields_nodes ks
    simp only [yields, List.length_append, nodesL]; omega
end
end Go.Proofs.Ytpcjfgikicpioaa

/- Mirrored trees: plain lists. No program is named here. -/
namespace Go.Proofs.Ytpcjfgikicpioaa
set_option linter.unusedVariables false

mutual
def mirT : Tree → Tree
  | ⟨r, t, ks⟩ => ⟨r, t, (mirL ks).reverse⟩
def mirL : List Tree → List Tree
  | [] => []
  | k :: ks => mirT k :: mirL ks
end
theorem mirL_map : ∀ ks : List Tree, mirL ks = ks.map mirT
  | [] => rfl
  | k :: ks => by simp [mirL, mirL_map ks]
theorem mirL_len (ks : List Tree) : (mirL ks).length = ks.length := by rw [mirL_map, List.length_map]
theorem mirT_eq (r t : Int) (ks : List Tree) : mirT ⟨r, t, ks⟩ = ⟨r, t, (ks.map mirT).reverse⟩ := by rw [mirT, mirL_map]
def zeroT : Tree := ⟨0, 0, []⟩
/-- The kids on the way: m of them are in, from the end on. -/
def mirK (ks : List Tree) (m : Nat) : List Tree := List.replicate (ks.length - m) zeroT ++ ((ks.take m).map mirT).reverse
theorem mirK_zero (ks : List Tree) : mirK ks 0 = List.replicate ks.length zeroT := by simp [mirK]
theorem mirK_all (ks : List Tree) : mirK ks ks.length = (ks.map mirT).reverse := by simp [mirK]
theorem mirK_len {ks : List Tree} {m : Nat} (h : m ≤ ks.length) : (mirK ks m).length = ks.length := by
  unfold mirK
  rw [List.length_append, List.length_replicate, List.length_reverse, List.length_map, List.length_take]
  omega
theorem mirK_set {ks : List Tree} {m : Nat} {x : Tree} (h : ks[m]? = some x) : (mirK ks m).set (ks.length - 1 - m) (mirT x) = mirK ks (m + 1) := by
  have hl := (List.getElem?_eq_some_iff.1 h).1
  unfold mirK
  rw [List.take_add_one, h]
  simp only [Option.toList_some, List.map_append, List.map_cons, List.map_nil, List.reverse_append, List.reverse_cons, List.reverse_nil, List.nil_append, List.singleton_append]
  obtain ⟨d, hd⟩ : ∃ d, ks.length - m = d + 1 := ⟨ks.length - m - 1, by omega⟩
  rw [hd, show ks.length - 1 - m = d by omega, show ks.length - (m + 1) = d by omega, List.replicate_succ', List.append_assoc, List.set_append_right _ _ (by simp), List.length_replicate, Nat.sub_self]
  rfl
theorem nodes_mem {k : Tree} : ∀ {ks : List Tree}, k ∈ ks → nodesT k ≤ nodesL ks
  | x :: ks, h => by
    rcases List.mem_cons.1 h with e | h
    · subst e; simp only [nodesL]; omega
    · have := nodes_mem h; simp only [nodesL]; omega
mutual
theorem Tree.indM {P : Tree → Prop} (h : ∀ r t ks, (∀ k ∈ ks, P k) → P ⟨r, t, ks⟩) : ∀ t, P t
  | ⟨r, t, ks⟩ => h r t ks (Tree.indN h ks)
theorem Tree.indN {P : Tree → Prop} (h : ∀ r t ks, (∀ k ∈ ks, P k) → P ⟨r, t, ks⟩) : ∀ ks : List Tree, ∀ k ∈ ks, P k
  | [], k, hk => by simp at hk
  | x :: xs, k, hk => by
    rcases List.mem_cons.1 hk with e | e
    · exact e ▸ Tree.indM h x
    · exact Tree.indN h xs k e
end
end Go.Proofs.Ytpcjfgikicpioaa

/- Tables of operators: how they open out of an argument. -/
namespace Go.Proofs.Ytpcjfgikicpioaa
open Go.RowKit Go.ChangeShapes Go.WideShapes Go.Deep

instance instBlkLevel : Blk Level := ⟨fun r => 2 + Blk.blk r.ops⟩
instance instBlkTable : Blk Table := ⟨fun g => 5 + Blk.blk g.levels⟩
section
variable {P : Program}
theorem opens_level {t : TypeId} {f0 f1 : Field} (hs : P.underlying t = some (.struct #[f0, f1])) (hone : oneCellFields P #[f0, f1] = true) (hC : P.cellsOf t = 2) (h0 : Opens P Int f0.type) (h1 : Opens P (List Int) f1.type) : Opens P Level t := by
  intro H enc w base spare held fuel cs y h
  obtain ⟨n, ys, _, hy, hl, hyl, hf⟩ := trod_fields hs hone hC h
  match cs, hl, ys, hyl with
  | [c0, c1], _, [y0, y1], _ =>
    obtain ⟨z, ⟨hz, hz'⟩, hbz⟩ := h0 enc w base spare held n [c0] y0 (hf 0 f0 c0 y0 rfl rfl rfl)
    obtain ⟨r, hr, hbr⟩ := h1 enc w base spare held n [c1] y1 (hf 1 f1 c1 y1 rfl rfl rfl)
    obtain rfl : c0 = .int .i64 z := by simpa using hz
    obtain ⟨v, hv, hvl⟩ := rd_slice hr
    obtain rfl : c1 = v := by simpa using hv
    refine ⟨⟨z, r⟩, ⟨c1, rfl, hz', hvl⟩, ?_⟩
    rw [hy]
    have e1 : Blk.blk z = 1 := rfl
    simp only [List.map_cons, List.map_nil, Rows.uptoBulk, Rows.uptoBulkAll]
    show 2 + Blk.blk r ≤ _
    omega
theorem opens_table {t : TypeId} {f0 f1 f2 f3 f4 : Field} (hs : P.underlying t = some (.struct #[f0, f1, f2, f3, f4])) (hone : oneCellFields P #[f0, f1, f2, f3, f4] = true) (hC : P.cellsOf t = 5) (h0 : Opens P Int f0.type) (h1 : Opens P Int f1.type) (h2 : Opens P Int f2.type) (h3 : Opens P Int f3.type) (h4 : Opens P (List Level) f4.type) : Opens P Table t := by
  intro H enc w base spare held fuel cs y h
  obtain ⟨n, ys, _, hy, hl, hyl, hf⟩ := trod_fields hs hone hC h
  match cs, hl, ys, hyl with
  | [c0, c1, c2, c3, c4], _, [y0, y1, y2, y3, y4], _ =>
    obtain ⟨z0, ⟨hz0, hz0'⟩, hb0⟩ := h0 enc w base spare held n [c0] y0 (hf 0 f0 c0 y0 rfl rfl rfl)
    obtain ⟨z1, ⟨hz1, hz1'⟩, hb1⟩ := h1 enc w base spare held n [c1] y1 (hf 1 f1 c1 y1 rfl rfl rfl)
    obtain ⟨z2, ⟨hz2, hz2'⟩, hb2⟩ := h2 enc w base spare held n [c2] y2 (hf 2 f2 c2 y2 rfl rfl rfl)
    obtain ⟨z3, ⟨hz3, hz3'⟩, hb3⟩ := h3 enc w base spare held n [c3] y3 (hf 3 f3 c3 y3 rfl rfl rfl)
    obtain ⟨r, hr, hbr⟩ := h4 enc w base spare held n [c4] y4 (hf 4 f4 c4 y4 rfl rfl rfl)
    obtain rfl : c0 = .int .i64 z0 := by simpa using hz0
    obtain rfl : c1 = .int .i64 z1 := by simpa using hz1
    obtain rfl : c2 = .int .i64 z2 := by simpa using hz2
    obtain rfl : c3 = .int .i64 z3 := by simpa using hz3
    obtain ⟨v, hv, hvl⟩ := rd_slice hr
    obtain rfl : c4 = v := by simpa using hv
    refine ⟨⟨z0, z1, z2, z3, r⟩, ⟨c4, rfl, hz0', hz1', hz2', hz3', hvl⟩, ?_⟩
    rw [hy]
    have e0 : Blk.blk z0 = 1 := rfl
    have e1 : Blk.blk z1 = 1 := rfl
    have e2 : Blk.blk z2 = 1 := rfl
    have e3 : Blk.blk z3 = 1 := rfl
    simp only [List.map_cons, List.map_nil, Rows.uptoBulk, Rows.uptoBulkAll]
    show 5 + Blk.blk r ≤ _
    omega
end
theorem opensLevel : Opens Try.prog Level 79 := opens_level Try.underlying79 (by kernel_rfl) (by kernel_rfl) (opens_int Try.underlying3) opensInts
theorem opensLevels : Opens Try.prog (List Level) 22 := opens_slice Try.underlying22 (by kernel_rfl) opensLevel
theorem opensTable : Opens Try.prog Table 24 := opens_table Try.underlying24 (by kernel_rfl) (by kernel_rfl) (opens_int Try.underlying3) (opens_int Try.underlying3) (opens_int Try.underlying3) (opens_int Try.underlying3) opensLevels
end Go.Proofs.Ytpcjfgikicpioaa

