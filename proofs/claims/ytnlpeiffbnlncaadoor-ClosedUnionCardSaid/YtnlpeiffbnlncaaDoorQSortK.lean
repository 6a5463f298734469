/- Contract: slices.SortFunc at nodes of a forest with core.order, by the shelf's contract: the row holds the same nodes in some order. -/
import Derived.Test.YtnlpeiffbnlncaaDoorQKOrder
import Derived.Test.YtnlpeiffbnlncaaDoorQp2
import Derived.Test.YtnlpeiffbnlncaaDoorQp1
namespace Go.Proofs.YtnlpeiffbnlncaaDoor
open Go.RowKit Go.Sort Go.Shelf
set_option linter.unusedVariables false

instance : Inhabited NKey := ⟨⟨⟨false, 0⟩, 0, 0⟩⟩
theorem kept_sortWorldK {α : Type} [Inhabited α] (enc : α → List Value) (k : Nat) (w : World) (blk off m : Nat) (dk : Array α) (os : Array Obj) : Kept (fun b => b = blk) w (sortWorldK enc k w blk off m dk os) := by
  unfold sortWorldK putRowK Go.Sort.grow Go.Sort.putRow Go.Sort.mapBlock Go.Sort.ahead
  refine ⟨rfl, rfl, rfl, by simp, fun k hk hx => ?_⟩
  show (w.heap.modify blk _ ++ os)[k]? = w.heap[k]?
  rw [Array.getElem?_append_left (by simpa using hk), Array.getElem?_modify, if_neg (fun e => hx e.symm)]
theorem swoK : Go.Sort.SWO (ltOf keyCmp) where
  irrefl x := by
    unfold ltOf
    rw [decide_eq_false_iff_not, keyCmp_lt, symCmp_lt]
    rintro (h | ⟨_, h | ⟨_, ⟨h1, h2⟩ | ⟨_, h⟩⟩⟩)
    · omega
    · omega
    · rw [h1] at h2; cases h2
    · omega
  trans x y z h1 h2 := by
    unfold ltOf at *
    rw [decide_eq_true_eq, keyCmp_lt, symCmp_lt] at *
    obtain ⟨⟨xt, xn⟩, xf, xo⟩ := x
    obtain ⟨⟨yt, yn⟩, yf, yo⟩ := y
    obtain ⟨⟨zt, zn⟩, zf, zo⟩ := z
    dsimp only at *
    cases xt <;> cases yt <;> cases zt <;> simp at h1 h2 ⊢ <;> omega
  ntrans x y z h1 h2 := by
    unfold ltOf at *
    rw [decide_eq_false_iff_not, keyCmp_lt, symCmp_lt] at *
    obtain ⟨⟨xt, xn⟩, xf, xo⟩ := x
    obtain ⟨⟨yt, yn⟩, yf, yo⟩ := y
    obtain ⟨⟨zt, zn⟩, zf, zo⟩ := z
    dsimp only at *
    cases xt <;> cases yt <;> cases zt <;> simp at h1 h2 ⊢ <;> omega
theorem korder_go : ∀ args w, (callFunc 101 args).run Tryd.prog w = .ok (.enter 101 args) w := enters_of Tryd.func101 (by kernel_rfl) rfl
theorem keyC_len (x : NKey) : (keyC x).length = 4 := rfl
theorem keyC_get (x : NKey) {j : Nat} (h : j < 4) : (keyC x)[j]? = some ((keyC x)[j]!) := by
  rw [List.getElem?_eq_getElem (by rw [keyC_len]; exact h), List.getElem!_eq_getElem?_getD, List.getElem?_eq_getElem (by rw [keyC_len]; exact h)]
  rfl

set_option maxRecDepth 100000 in
set_option maxHeartbeats 1000000 in
theorem sortK_any (w : World) (xs : List NKey) (g cap : Nat) (hR : ∀ (i : Nat) (x : NKey), xs[i]? = some x → At w g (i * 4) (keyC x)) (hfz : ∀ i, w.frozen? ⟨g, i, none⟩ = false) (hg : g < w.heap.size) (hn : xs.length < 1000000) :
    Calls Tryd.prog 100 #[.slice (some ⟨g, 0, none⟩) xs.length cap, .func (.func 101) #[] #[]] w fun e w' => e = .returned (.tuple #[]) ∧
      ∃ ys : List NKey, ys.Perm xs ∧ (∀ (i : Nat) (x : NKey), ys[i]? = some x → At w' g (i * 4) (keyC x)) ∧ Kept (fun b => b = g) w w' := by
  have hH : HoldsK keyC 4 w g 0 xs.toArray := by
    intro j hj
    rw [size_flatK] at hj
    have hj' : j / 4 < xs.length := by simp at hj; omega
    refine ⟨?_, hfz _⟩
    rw [get_flatK _ _ _ _ hj, Nat.zero_add]
    have hx : xs[j / 4]? = some xs[j / 4] := List.getElem?_eq_getElem hj'
    have h1 := hR (j / 4) _ hx (j % 4) _ (keyC_get _ (Nat.mod_lt _ (by omega)))
    rw [show j / 4 * 4 + j % 4 = j from by omega] at h1
    rw [h1, getElem!_pos xs.toArray (j / 4) (by simpa using hj')]
    simp
  have hcmp : CmpLays Tryd.prog 101 #[] keyC 4 keyCmp g 0 xs.toArray.size w := fun m os dk hs x y => (korder_Gr x y _).mono fun e w' h => h
  have h := AnyQ.slices_SortFunc sortK 4 Tryd.isAgg160 Tryd.sizeOf160 keyC keyC_len (fun x v hv => by simp [keyC] at hv; rcases hv with rfl | rfl | rfl | rfl <;> rfl) keyCmp swoK 101 #[] g 0 cap xs.toArray w korder_go hcmp hH hg (by simp; omega)
  have hsz : xs.toArray.size = xs.length := by simp
  rw [hsz] at h
  refine h.mono ?_
  rintro e w' ⟨rfl, d', n', os, ⟨hp1, _, hp2⟩, _, rfl⟩
  have hd's : d'.size = xs.length := by rw [hp1, hsz]
  have hperm : d'.toList.Perm xs := by
    have e1 : d'.extract 0 xs.length = d' := by rw [← hd's]; exact Array.extract_size
    have e2 : xs.toArray.extract 0 xs.length = xs.toArray := by rw [← hsz]; exact Array.extract_size
    rw [e1, e2] at hp2
    simpa using hp2
  have hH' := holdsK_sortWorldK_c (enc := keyC) (k := 4) (w := w) (blk := g) (off := 0) xs.toArray d' n' os hH hg hp1
  refine ⟨rfl, d'.toList, hperm, fun i x hx j u hu => ?_, kept_sortWorldK keyC 4 w g 0 n' d' os⟩
  have hi : i < d'.size := by have := (List.getElem?_eq_some_iff.1 hx).1; simpa using this
  have hj : j < 4 := by have := (List.getElem?_eq_some_iff.1 hu).1; rwa [keyC_len] at this
  have hlt : i * 4 + j < d'.size * 4 := by omega
  have h1 := (hH' (i * 4 + j) (by rw [size_flatK]; exact hlt)).1
  rw [Nat.zero_add, get_flatK _ _ _ _ hlt, show (i * 4 + j) / 4 = i from by omega, show (i * 4 + j) % 4 = j from by omega, getElem!_pos d' i hi] at h1
  have e1 : d'[i] = x := by
    rw [Array.getElem?_toList, Array.getElem?_eq_getElem hi] at hx
    injection hx
  rw [e1] at h1
  rw [h1]
  have h2 := keyC_get x hj
  rw [hu] at h2
  exact h2.symm
end Go.Proofs.YtnlpeiffbnlncaaDoor
