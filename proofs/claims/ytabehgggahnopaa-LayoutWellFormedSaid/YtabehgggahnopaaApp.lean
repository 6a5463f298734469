/- Appending a whole slice onto a row of the call's own; a row made with room by append-of-make. -/
import Derived.Test.YtabehgggahnopaaData
import Derived.Lib.AppendZeros
namespace Go.Proofs.Ytabehgggahnopaa
open Go.RowKit

theorem Els.lists {α : Type} [Dat α] {w : World} {S : Nat → Prop} {b o : Nat} : ∀ (xs : List α) (s : Nat),
    (∀ i x, xs[i]? = some x → ∃ cs, Dat.rd w S x cs ∧ At w b (o + (s + i) * Dat.size α) cs) →
    ∃ css : List (List Value), css.length = xs.length ∧ (∀ (i : Nat) (x : α) (cs : List Value), xs[i]? = some x → css[i]? = some cs → Dat.rd w S x cs) ∧ At w b (o + s * Dat.size α) css.flatten
  | [], s, _ => ⟨[], rfl, by simp, by intro j u hu; simp at hu⟩
  | x :: xs, s, h => by
    obtain ⟨cs, h1, h2⟩ := h 0 x rfl
    obtain ⟨css, h3, h4, h5⟩ := Els.lists xs (s + 1) (fun i y hi => by
      obtain ⟨ds, h6, h7⟩ := h (i + 1) y (by simpa using hi)
      exact ⟨ds, h6, by rw [show s + 1 + i = s + (i + 1) from by omega]; exact h7⟩)
    refine ⟨cs :: css, by simp [h3], fun i y ds hi hd => ?_, ?_⟩
    · match i with
      | 0 => simp at hi hd; subst hi; subst hd; exact h1
      | i + 1 => exact h4 i y ds (by simpa using hi) (by simpa using hd)
    · intro j u hu
      rw [List.flatten_cons] at hu
      have hl := Dat.len h1
      rcases Nat.lt_or_ge j cs.length with hj | hj
      · rw [List.getElem?_append_left hj] at hu
        have := h2 j u hu
        simpa using this
      · rw [List.getElem?_append_right hj] at hu
        have := h5 _ u hu
        rw [hl] at this hj
        rw [show o + s * Dat.size α + j = o + (s + 1) * Dat.size α + (j - Dat.size α) from by rw [Nat.add_mul]; omega]
        exact this

theorem flat_len {size : Nat} : ∀ (css : List (List Value)) (_ : ∀ cs ∈ css, cs.length = size), css.flatten.length = css.length * size
  | [], _ => by simp
  | c :: css, h => by
    rw [List.flatten_cons, List.length_append, flat_len css (fun cs hcs => h cs (by simp [hcs])), h c (by simp), List.length_cons, Nat.add_mul]; omega

section
variable {P : Program} {w : World} {S : Nat → Prop} {base : Nat} {α : Type} [Dat α]

theorem own_many {e : TypeId} {v v' : Value} {w' : World} {xs ys : List α} {css dss : List (List Value)}
    (h2 : css.length = xs.length) (h3 : ∀ (i : Nat) (x : α) (cs : List Value), xs[i]? = some x → css[i]? = some cs → Dat.rd w (OwnT S base v w) x cs)
    (h2' : dss.length = ys.length) (h3' : ∀ (i : Nat) (x : α) (cs : List Value), ys[i]? = some x → dss[i]? = some cs → Dat.rd w (OwnT S base v w) x cs)
    (hown : w'.ownsRow base e (Dat.size α) v' (xs.length + ys.length) (css.flatten ++ dss.flatten))
    (hg : w.grownBy w' v.ownBlock) (hat : v'.ownBlock = v.ownBlock ∨ v'.ownBlock = some w.heap.size) : Own w' S base e v' (xs ++ ys) := by
  have hkeep : ∀ {y : α} {ds : List Value}, Dat.rd w (OwnT S base v w) y ds → Dat.rd w' (OwnT S base v' w') y ds := fun hy =>
    Dat.keep (fun p hp hlt => World.cell?_of_block (hg.block p.block hlt (fun e => hp.2.1 e.symm))) (fun b hb => ⟨hb.1, by
      rcases hat with e | e
      · rw [e]; exact hb.2.1
      · rw [e]; intro h; injection h with h; have := hb.2.2; omega, Nat.lt_of_lt_of_le hb.2.2 hg.size⟩) hy
  refine ⟨css ++ dss, by simpa using hown, by simp [h2, h2'], fun i y ds hi hd => ?_⟩
  rcases Nat.lt_or_ge i xs.length with hlt | hge
  · rw [List.getElem?_append_left hlt] at hi
    rw [List.getElem?_append_left (by omega)] at hd
    exact hkeep (h3 i y ds hi hd)
  · rw [List.getElem?_append_right hge] at hi
    rw [List.getElem?_append_right (by omega), h2] at hd
    exact hkeep (h3' _ y ds hi hd)

theorem run_append_nil_src {t ty e : TypeId} {i : TypeInfo} {size : Nat} (ht : P.underlying t = some (.slice e)) (hi : P.info? e = some i)
    {v : Value} {n : Nat} {xs : List Value} (hown : w.ownsRow base e size v n xs) (c : Nat) : (Builtin.append_ #[t, t] ty #[v, .slice none 0 c]).run P w = .ok v w := by
  rcases hown.2 with ⟨rfl, rfl⟩ | ⟨g, cap, cur, rfl, _, _, hnc, _⟩
  · simp [Builtin.append_, run_underlying ht, sizeOf, typeInfo, hi, Builtin.lenOf, Builtin.firstCells]
  · simp [Builtin.append_, run_underlying ht, sizeOf, typeInfo, hi, Builtin.lenOf, Builtin.firstCells, hnc, storeCells]
theorem run_append_none_src {t ty e : TypeId} {i : TypeInfo} {size : Nat} (ht : P.underlying t = some (.slice e)) (hi : P.info? e = some i)
    {v : Value} {n : Nat} {xs : List Value} (hown : w.ownsRow base e size v n xs) (ad : Addr) (c : Nat) : (Builtin.append_ #[t, t] ty #[v, .slice (some ad) 0 c]).run P w = .ok v w := by
  rcases hown.2 with ⟨rfl, rfl⟩ | ⟨g, cap, cur, rfl, _, _, hnc, _⟩
  · simp [Builtin.append_, run_underlying ht, sizeOf, typeInfo, hi, Builtin.lenOf, Builtin.firstCells, loadCells, loadCellsFrom]
  · simp [Builtin.append_, run_underlying ht, sizeOf, typeInfo, hi, Builtin.lenOf, Builtin.firstCells, hnc, storeCells, loadCells, loadCellsFrom]

/-- append of a whole slice that reads as ys. -/
theorem run_ownMany {t ty e : TypeId} {bytes : Nat} (hT : ElemT P α t e bytes) {v : Value} {xs ys : List α} {A : Option Addr} {c : Nat} (hown : Own w S base e v xs)
    (hys : Els w (OwnT S base v w) ys A) (hlen : (xs.length + ys.length) * bytes ≤ 140737488355328) (hmax : xs.length + ys.length ≤ 9223372036854775807) (hbase : base ≤ w.heap.size) :
    ∃ v' w', (Builtin.append_ #[t, t] ty #[v, .slice A ys.length c]).run P w = .ok v' w' ∧ Own w' S base e v' (xs ++ ys) ∧ w.grownBy w' v.ownBlock ∧ (v'.ownBlock = v.ownBlock ∨ v'.ownBlock = some w.heap.size) := by
  obtain ⟨i, z, ht, hi, hz, hsize, hby, hzs⟩ := hT
  by_cases hne : ys = []
  · subst hne
    refine ⟨v, w, ?_, by simpa using hown, ⟨rfl, rfl, rfl, Nat.le_refl _, fun _ _ _ => rfl⟩, .inl rfl⟩
    obtain ⟨css, h1, _⟩ := hown
    cases A with
    | none => exact run_append_nil_src ht hi h1 c
    | some ad => exact run_append_none_src ht hi h1 ad c
  · obtain ⟨b, o, rfl, hb, hx⟩ := hys hne
    obtain ⟨dss, h2', h3', h4'⟩ := Els.lists (o := o) ys 0 (fun i x hi => by simpa using hx i x hi)
    simp only [Nat.zero_mul, Nat.add_zero] at h4'
    obtain ⟨css, h1, h2, h3⟩ := hown
    have hdl : ∀ ds ∈ dss, ds.length = Dat.size α := by
      intro ds hds
      obtain ⟨i, hi, rfl⟩ := List.getElem_of_mem hds
      exact Dat.len (h3' i _ _ (List.getElem?_eq_getElem (by omega : i < ys.length)) (List.getElem?_eq_getElem hi))
    have hfl := flat_len dss hdl
    have hone : ∀ u ∈ dss.flatten, u.oneCell' = true := by
      intro u hu
      obtain ⟨ds, hds, hu⟩ := List.mem_flatten.1 hu
      obtain ⟨i, hi, rfl⟩ := List.getElem_of_mem hds
      exact Dat.one (h3' i _ _ (List.getElem?_eq_getElem (by omega : i < ys.length)) (List.getElem?_eq_getElem hi)) u hu
    obtain ⟨v', w', hr, ho, hg, _, h5⟩ := run_append_own_at (P := P) w base t ty e i z (Dat.size α) bytes ht hi hz hsize hby hzs Dat.pos v xs.length css.flatten h1 ⟨b, o, none⟩ ys.length c dss.flatten (by rw [hfl, h2'])
      (by
        intro j u hu
        have h := h4' j u hu
        have hadd : (⟨b, o, none⟩ : Addr).add j = ⟨b, o + j, none⟩ := by unfold Addr.add; split <;> simp_all
        rw [hadd]; exact h) hone (by simpa [maxLen] using hmax) hlen hbase
    exact ⟨v', w', hr, own_many h2 h3 h2' h3' ho hg h5, hg, h5⟩
end

section
variable {P : Program} (w : World) {S : Nat → Prop} {base : Nat} {α : Type} [Dat α]
theorem wp_ownMany {o : Oper} {a : Act} {K : Act → World → Prop} {Q : Exit → Act → World → Prop} (s xo : Operand) {t e : TypeId} {bytes : Nat} (hT : ElemT P α t e bytes)
    (ho : o.op = .call { callee := .builtin .append, args := #[s, xo], argTypes := #[t, t] })
    {v : Value} {xs : List α} (hs : a.eval s = v) (hown : Own w S base e v xs) (ys : List α) {A : Option Addr} {n c : Nat} (hx : a.eval xo = .slice A n c) (hn : n = ys.length)
    (hys : Els w (OwnT S base v w) ys A) (hlen : (xs.length + ys.length) * bytes ≤ 140737488355328) (hmax : xs.length + ys.length ≤ 9223372036854775807) (hbase : base ≤ w.heap.size)
    (h : ∀ v' w', Own w' S base e v' (xs ++ ys) → w.grownBy w' v.ownBlock → (v'.ownBlock = v.ownBlock ∨ v'.ownBlock = some w.heap.size) → K (a.put o.dst v') w') : o.wp P a w K Q := by
  subst hn
  obtain ⟨v', w', hrun, h2, h3, h4⟩ := run_ownMany (ty := o.type) (c := c) hT hown hys hlen hmax hbase
  unfold Oper.wp execOp
  simp only [ho, resolve, invoke, builtin, Sem.run_bind, Sem.run_pure, Result.andThen_ok, List.map_toArray, List.map_cons, List.map_nil, hs, hx, hrun]
  exact h v' w' h2 h3 h4
theorem wpList_ownMany {ops : Array Oper} {rest : List Oper} {o : Oper} {a : Act} {Q : Exit → Act → World → Prop} (hgd : o.guard = none) (s xo : Operand) {t e : TypeId} {bytes : Nat} (hT : ElemT P α t e bytes)
    (ho : o.op = .call { callee := .builtin .append, args := #[s, xo], argTypes := #[t, t] })
    {v : Value} {xs : List α} (hs : a.eval s = v) (hown : Own w S base e v xs) (ys : List α) {A : Option Addr} {n c : Nat} (hx : a.eval xo = .slice A n c) (hn : n = ys.length)
    (hys : Els w (OwnT S base v w) ys A) (hlen : (xs.length + ys.length) * bytes ≤ 140737488355328) (hmax : xs.length + ys.length ≤ 9223372036854775807) (hbase : base ≤ w.heap.size)
    (h : ∀ v' w', Own w' S base e v' (xs ++ ys) → w.grownBy w' v.ownBlock → (v'.ownBlock = v.ownBlock ∨ v'.ownBlock = some w.heap.size) → wpList P ops Q rest (a.put o.dst v') w') : wpList P ops Q (o :: rest) a w :=
  wpList_plain hgd fun _ hK => wp_ownMany w s xo hT ho hs hown ys hx hn hys hlen hmax hbase fun v' w' h2 h3 h4 => hK _ _ (h v' w' h2 h3 h4)
end

/-- A row of no element, with room. -/
theorem Own.made {α : Type} [Dat α] {w : World} (S : Nat → Prop) {base : Nat} {e : TypeId} {cur : Array Value} {cap : Nat} (hb : base ≤ w.heap.size) (hm : cap ≤ 9223372036854775807) (hs : cur.size = cap * Dat.size α) :
    Own (w.alloc (.cells cur e)) S base e (.slice (some ⟨w.heap.size, 0, none⟩) 0 cap) ([] : List α) :=
  ⟨[], World.ownsRow_made w cur cap hb (by simpa [maxLen] using hm) hs, rfl, fun i x cs h => by simp at h⟩

/-- append(nil, make([]T, n)...) : the run, as an equation, and what the row is when cut to no element. -/
theorem run_room {P : Program} {w : World} {α : Type} [Dat α] {t tn ty e : TypeId} {bytes : Nat} {kn k : IntKind} (hT : ElemT P α t e bytes) (htn : P.underlying tn = some (.int kn)) (n : Nat) (h0 : 0 < n) (h48 : n * bytes ≤ 281474976710656) (h63 : n ≤ 9223372036854775807) :
    ∃ w' g cap, (Builtin.append_ #[t, tn] ty #[.slice none 0 0, .int k n]).run P w = .ok (.slice (some ⟨g, 0, none⟩) n cap) w' ∧ g = w.heap.size ∧ n ≤ cap ∧ cap ≤ 9223372036854775807 ∧ (∀ S, Own w' S w.heap.size e (.slice (some ⟨g, 0, none⟩) 0 cap) ([] : List α)) ∧ Below w.heap.size w w' ∧ w'.heap.size = w.heap.size + 1 := by
  obtain ⟨i, z, ht, hi, hz, hsize, hby, hzs⟩ := hT
  have hr := Lib.run_append_nil_zeros (P := P) w t tn ty e i z k kn ht htn hi hz n h0 (by rw [hsize]; exact Dat.pos) (by omega) (by rw [hby]; exact h48)
  have hge := grownCap_ge w n 0 e
  have hcm := grownCap_le_maxLen w n 0 e (by simpa [maxLen] using h63)
  refine ⟨_, _, _, hr, rfl, hge, by simpa [maxLen] using hcm, fun S => ?_, ((Below.refl _ _).drew).alloc (Nat.le_refl _) _, by simp⟩
  exact Own.made (w := w.drew) S (Nat.le_refl _) (by simpa [maxLen] using hcm) (by simp only [Array.size_append, size_zeroCells, hzs, ← Nat.add_mul]; congr 1; omega)

/-- What append leaves of a literal row on nil: a row of the call's own. -/
theorem Own.litGrown {α : Type} [Dat α] {w : World} (S : Nat → Prop) {base : Nat} {e : TypeId} (xs : List α) (css : List (List Value)) (z : Array Value) (n : Nat) (hn : n = xs.length) (hz : z.size = Dat.size α) (hb : base ≤ w.heap.size) (hm : xs.length ≤ 9223372036854775807) (hl : css.length = xs.length)
    (hr : ∀ (i : Nat) (x : α) (cs : List Value), xs[i]? = some x → css[i]? = some cs → Dat.rd w (fun b => (S b ∨ base ≤ b) ∧ b < w.heap.size) x cs) (w0 : World) :
    Own (w.alloc (.cells (css.flatten.toArray ++ Builtin.zeroCells z ((Question.appendCap n 0 e).cut (w0.tape w0.drawn (Question.appendCap n 0 e)) - n)) e)).drew S base e (.slice (some ⟨w.heap.size, 0, none⟩) n ((Question.appendCap n 0 e).cut (w0.tape w0.drawn (Question.appendCap n 0 e)))) xs := by
  subst hn
  have hge := grownCap_ge w0 xs.length 0 e
  have hcm := grownCap_le_maxLen w0 xs.length 0 e (by simpa [maxLen] using hm)
  unfold grownCap at hge hcm
  generalize (Question.appendCap xs.length 0 e).cut (w0.tape w0.drawn (Question.appendCap xs.length 0 e)) = cap at *
  have hdl : ∀ ds ∈ css, ds.length = Dat.size α := by
    intro ds hds
    obtain ⟨i, hi, rfl⟩ := List.getElem_of_mem hds
    exact Dat.len (hr i _ _ (List.getElem?_eq_getElem (by omega : i < xs.length)) (List.getElem?_eq_getElem hi))
  have hfl := flat_len css hdl
  rw [hl] at hfl
  refine ⟨css, ⟨hfl, .inr ⟨w.heap.size, cap, _, rfl, hb, heap_alloc_new w _, hge, hcm, ?_, ?_⟩⟩, hl, fun i x cs hi hc => Dat.keep (fun p hp hlt => ?_) (fun b hb' => ⟨hb'.1, ?_, ?_⟩) (hr i x cs hi hc)⟩
  · simp only [Array.size_append, size_zeroCells, hz, List.size_toArray, hfl, ← Nat.add_mul]; congr 1; omega
  · rw [Array.toList_append, List.take_append_of_le_length (by simp [hfl])]
    exact List.take_of_length_le (by simp [hfl])
  · exact ((Below.refl _ _).alloc (Nat.le_refl _) _ : Below w.heap.size w _).cell hp.2
  · simp [Value.ownBlock]; have := hb'.2; omega
  · have := hb'.2; simp; omega

/-- A call that returns a row of its own. -/
def RetOwn {α : Type} [Dat α] (w0 : World) (S : Nat → Prop) (et : TypeId) (xs : List α) (e : Ending) (w' : World) : Prop :=
  ∃ v, e = .returned v ∧ Own w' S w0.heap.size et v xs ∧ Below w0.heap.size w0 w'
theorem flat_take_le {α : Type} (xss : List (List α)) (k : Nat) : (xss.take k).flatten.length ≤ xss.flatten.length := by
  conv => rhs; rw [← List.take_append_drop k xss]
  rw [List.flatten_append, List.length_append]; omega
theorem flat_take_snoc {α : Type} {xss : List (List α)} {k : Nat} {xs : List α} (h : xss[k]? = some xs) : (xss.take (k + 1)).flatten = (xss.take k).flatten ++ xs := by
  rw [take_snoc h, List.flatten_append]; simp
theorem Els.own {α : Type} [Dat α] {w : World} {S : Nat → Prop} {base : Nat} {e : TypeId} {β : Type} [Dat β] {v : Value} {ys : List β} {xs : List α} {A : Option Addr} (h : Els w S xs A) (hown : Own w S base e v ys) (hS : ∀ b, S b → b < base) (hb : base ≤ w.heap.size) : Els w (OwnT S base v w) xs A :=
  h.keep (fun _ _ _ => rfl) (fun b hb' => ⟨.inl hb', fun e => by have := (hown.block b e).1; have := hS b hb'; omega, by have := hS b hb'; omega⟩)
theorem own_ne {α : Type} [Dat α] {w : World} {S : Nat → Prop} {B : Nat} {e : TypeId} {v : Value} {xs : List α} (h : Own w S (B + 1) e v xs) : some B ≠ v.ownBlock := fun e => by have := (h.block B e.symm).1; omega
theorem At.new (w : World) (cs : List Value) (t : TypeId) : At (w.alloc (.cells cs.toArray t)) w.heap.size 0 cs := fun j u hu => by
  rw [Nat.zero_add, World.cell?_alloc_new]; simpa using hu
theorem snoc_len {α : Type} (l : List α) (x : α) : (l ++ [x]).length = l.length + 1 := by simp
theorem Own.base {α : Type} [Dat α] {w : World} {S : Nat → Prop} {base base' : Nat} {e : TypeId} {v : Value} {xs : List α} (h : Own w S base e v xs) (hb : base' ≤ base) : Own w S base' e v xs := by
  obtain ⟨css, h1, h2, h3⟩ := h
  refine ⟨css, ⟨h1.1, ?_⟩, h2, fun i x cs hi hc => Dat.keep (fun _ _ _ => rfl) (fun b hb' => ⟨hb'.1.imp id (fun h => Nat.le_trans hb h), hb'.2⟩) (h3 i x cs hi hc)⟩
  rcases h1.2 with h | ⟨g, cap, cur, q1, q2, q3⟩
  · exact .inl h
  · exact .inr ⟨g, cap, cur, q1, Nat.le_trans hb q2, q3⟩

/-- A block that is known whole holds a row of elements. -/
theorem els_of_blk {α : Type} [Dat α] {w : World} {S : Nat → Prop} {g : Nat} {t : TypeId} {xs : List α} {cells : Array Value} (css : List (List Value)) (hb : Blk' w g t cells) (hc : cells = css.flatten.toArray) (hl : css.length = xs.length)
    (hr : ∀ (i : Nat) (x : α) (cs : List Value), xs[i]? = some x → css[i]? = some cs → Dat.rd w S x cs) (hS : S g) : Els w S xs (some ⟨g, 0, none⟩) := by
  subst hc
  intro _
  refine ⟨g, 0, rfl, hS, fun i x hi => ?_⟩
  have hil : i < css.length := by have := (List.getElem?_eq_some_iff.1 hi).1; omega
  have hci : css[i]? = some css[i] := List.getElem?_eq_getElem hil
  refine ⟨css[i], hr i x _ hi hci, fun j u hu => ?_⟩
  have hcl : ∀ cs ∈ css, cs.length = Dat.size α := by
    intro cs hcs
    obtain ⟨k, hk, rfl⟩ := List.getElem_of_mem hcs
    exact Dat.len (hr k _ _ (List.getElem?_eq_getElem (by omega : k < xs.length)) (List.getElem?_eq_getElem hk))
  have hf := flat_get css hcl i j _ u hci hu
  rw [hb.cell]
  simpa [Nat.zero_add] using hf
theorem rd_two {α : Type} [Dat α] {w : World} {S : Nat → Prop} {x y : α} {cs ds : List Value} (h1 : Dat.rd w S x cs) (h2 : Dat.rd w S y ds) : ∀ (i : Nat) (z : α) (es : List Value), [x, y][i]? = some z → [cs, ds][i]? = some es → Dat.rd w S z es
  | 0, z, es, hi, hd => by simp at hi hd; subst hi; subst hd; exact h1
  | 1, z, es, hi, hd => by simp at hi hd; subst hi; subst hd; exact h2
  | _ + 2, z, es, hi, _ => by simp at hi
theorem rd_one {α : Type} [Dat α] {w : World} {S : Nat → Prop} {x : α} {cs : List Value} (h1 : Dat.rd w S x cs) : ∀ (i : Nat) (z : α) (es : List Value), [x][i]? = some z → [cs][i]? = some es → Dat.rd w S z es
  | 0, z, es, hi, hd => by simp at hi hd; subst hi; subst hd; exact h1
  | _ + 1, z, es, hi, _ => by simp at hi
end Go.Proofs.Ytabehgggahnopaa
