/- core.Build's second half: numbers of nodes, packs with numbers, nodes; a row of packs read as such. -/
import Derived.Test.YtjdojogjogenkaaDoorQBldP
import Derived.Test.YtjdojogjogenkaaDoorQp2
namespace Go.Proofs.YtjdojogjogenkaaDoor
open Go.RowKit
set_option linter.unusedVariables false
def numV (ys : List NKey) (j : Nat) (k : NKey) : Value := .int .i64 (if k ∈ ys.take j then ((ys.findIdx (fun x => decide (x = k)) : Nat) : Int) else 0)
theorem find_get {ys : List NKey} (h : ys.Nodup) {j : Nat} {x : NKey} (hx : ys[j]? = some x) : ys.findIdx (fun z => decide (z = x)) = j := by
 obtain ⟨hj, e⟩ := List.getElem?_eq_some_iff.1 hx
 rw [List.findIdx_eq hj]
 refine ⟨by simp [e], fun i hi => ?_⟩
 have hn := List.pairwise_iff_getElem.1 (List.nodup_iff_pairwise_ne.1 h) i j (by omega) hj hi
 rw [e] at hn
 simpa using hn
theorem numV_step {ys : List NKey} (h : ys.Nodup) {j : Nat} {x : NKey} (hx : ys[j]? = some x) (k : NKey) : (if k = x then .int .i64 (j : Int) else numV ys j k) = numV ys (j + 1) k := by
 unfold numV
 by_cases e : k = x
 ·subst e
  rw [if_pos rfl, if_pos (by rw [take_snoc hx]; simp), find_get h hx]
 ·rw [if_neg e, take_snoc hx]
  simp [e]
theorem numV_full {ys : List NKey} (h : ys.Nodup) {k : NKey} (hk : k ∈ ys) : ∃ r : Nat, numV ys ys.length k = .int .i64 (r : Int) ∧ ys[r]? = some k ∧ r < ys.length := by
 obtain ⟨j, hj⟩ := List.mem_iff_getElem?.1 hk
 refine ⟨j, ?_, hj, (List.getElem?_eq_some_iff.1 hj).1⟩
 unfold numV
 rw [List.take_length, if_pos hk, find_get h hj]
theorem Kids.snoc {ks : List NKey} : ∀ {ls : List Int} {l : List NKey}, Kids ks ls l → ∀ {i : Int} {k : NKey}, 0 ≤ i → ks[i.toNat]? = some k → Kids ks (ls ++ [i]) (l ++ [k])
 | [], [], _, i, k, h1, h2 => by unfold Kids; exact ⟨h1, h2, by unfold Kids; trivial⟩
 | i :: is_, k' :: l, h, j, k, h1, h2 => by
  unfold Kids at h
  rw [List.cons_append, List.cons_append]
  unfold Kids
  exact ⟨h.1, h.2.1, Kids.snoc h.2.2 h1 h2⟩
 | [], _ :: _, h, _, _, _, _ => by unfold Kids at h; exact h.elim
 | _ :: _, [], h, _, _, _, _ => by unfold Kids at h; exact h.elim
theorem Kids.len {ks : List NKey} : ∀ {ls : List Int} {l : List NKey}, Kids ks ls l → ls.length = l.length
 | [], [], _ => rfl
 | i :: is_, k' :: l, h => by unfold Kids at h; rw [List.length_cons, List.length_cons, Kids.len h.2.2]
 | [], _ :: _, h => by unfold Kids at h; exact h.elim
 | _ :: _, [], h => by unfold Kids at h; exact h.elim
def NodeIs (g : Gram) (ws : List Int) (T : List (List Nat)) (ys : List NKey) (nd : FNode) (k : NKey) : Prop :=
 nd.sym = k.sym ∧ (∃ pl, pl.Perm (packsL g ws T k) ∧ PacksAre ys nd.packs pl) ∧ nd.packs.length ≤ 100000000 ∧ ∀ p ∈ nd.packs, p.kids.length ≤ 1000 ∧ ∀ i ∈ p.kids, 0 ≤ i ∧ i.toNat < ys.length
theorem NodeIs.of {g : Gram} {ws : List Int} {T : List (List Nat)} {ys : List NKey} {k : NKey} {fps : List FPack} (h1 : g.rules.length ≤ 32) (h2 : ∀ q ∈ g.rules, q.right.length ≤ 4) (h3 : k.to ≤ 12) (fr tt : Int)
  (h : ∃ fs, fs.Perm fps ∧ Rel2 (PackIs ys) fs (packsL g ws T k)) : NodeIs g ws T ys ⟨k.sym, fr, tt, fps⟩ k := by
 obtain ⟨fs, hp, hr⟩ := h
 obtain ⟨pl, hpl, hr2⟩ := hr.perm hp.symm
 refine ⟨rfl, ⟨pl, hpl, PacksAre.rel hr2⟩, ?_, fun p hpm => ?_⟩
 ·have e1 := hr2.length
  have e2 := hpl.length_eq
  have e3 := packs_len g ws T k h1 h2 h3
  dsimp only
  omega
 ·obtain ⟨b, hb, hpb⟩ := hr2.mem hpm
  refine ⟨?_, fun i hi => ?_⟩
  ·rw [hpb.2.len]
   obtain ⟨_, q, hq, _, hw⟩ := mem_packs.1 (hpl.mem_iff.1 hb)
   rw [way_len _ _ _ _ hw]
   have := h2 q (List.mem_of_getElem? hq)
   omega
  ·obtain ⟨x, _, h0, hx⟩ := hpb.2.get' hi
   exact ⟨h0, (List.getElem?_eq_some_iff.1 hx).1⟩
theorem forest_of {g : Gram} {ws : List Int} {T : List (List Nat)} {ys : List NKey} {F : List FNode} (h : Rel2 (NodeIs g ws T ys) F ys) (hg : ∀ k ∈ ys, GoodK ws T k) : ForestIs g ws T ys F :=
 ⟨h.length, hg, fun v k nd hk hn => by
  obtain ⟨k', h1, h2⟩ := h.get v nd hn
  rw [hk] at h1
  injection h1 with h1
  subst h1
  exact ⟨h2.1, h2.2.1⟩⟩
def PkR (w : World) (S : Nat → Prop) (p : PkV) (f : FPack) : Prop := p.r = f.rule ∧ I64 f.rule ∧ p.n = f.kids.length ∧ f.kids.length ≤ p.c ∧ p.c ≤ 9223372036854775807 ∧ Els w S f.kids p.a
def PkV.cs (p : PkV) : List Value := [.int .i64 p.r, .slice p.a p.n p.c]
theorem pks_of {w : World} {S : Nat → Prop} : ∀ (fps : List FPack) (css : List (List Value)), css.length = fps.length → (∀ (i : Nat) (x : FPack) (cs : List Value), fps[i]? = some x → css[i]? = some cs → Dat.rd w S x cs) → ∃ ps : List PkV, Rel2 (PkR w S) ps fps ∧ css = ps.map PkV.cs
 | [], [], _, _ => ⟨[], .nil, rfl⟩
 | f :: fps, cs :: css, hl, h => by
  obtain ⟨ps, h1, h2⟩ := pks_of fps css (by simpa using hl) (fun i x cs hx hc => h (i + 1) x cs (by simpa using hx) (by simpa using hc))
  obtain ⟨v, rfl, hr, hv⟩ := h 0 f cs rfl rfl
  obtain ⟨A, c, rfl, h3, h4, h5⟩ := hv.slice
  exact ⟨⟨f.rule, A, f.kids.length, c⟩ :: ps, .cons ⟨rfl, hr, rfl, h3, h4, h5⟩ h1, by rw [List.map_cons, h2]; rfl⟩
 | [], _ :: _, h, _ => by simp at h
 | _ :: _, [], h, _ => by simp at h
theorem OwnX.rowF {w : World} {Z : Nat → Prop} {base : Nat} {v : Value} {fps : List FPack} (h : OwnX w Z base 155 v fps) (hne : fps ≠ []) :
  ∃ g c ps, v = .slice (some ⟨g, 0, none⟩) fps.length c ∧ fps.length ≤ c ∧ c ≤ 9223372036854775807 ∧ base ≤ g ∧ g < w.heap.size ∧ ¬ Z g ∧ RowF w g ps ∧ Rel2 (PkR w Z) ps fps := by
 obtain ⟨css, h1, h2, h3, h4, h5⟩ := h
 obtain ⟨ps, hr, hcs⟩ := pks_of fps css h2 h3
 rcases h1.2 with ⟨rfl, hn⟩ | ⟨g, cap, cur, rfl, hg, hh, hnc, hcm, hsz, htk⟩
 ·exact absurd (List.eq_nil_of_length_eq_zero hn) hne
 ·refine ⟨g, cap, ps, rfl, hnc, by simpa [maxLen] using hcm, hg, (Array.getElem?_eq_some_iff.1 hh).1, h4 g rfl, ⟨cur, hh, fun i p hp => ?_⟩, hr⟩
  have hc : css[i]? = some p.cs := by rw [hcs, List.getElem?_map, hp]; rfl
  have hil : i < fps.length := by rw [← hr.length]; exact (List.getElem?_eq_some_iff.1 hp).1
  have hcl : ∀ cs ∈ css, cs.length = 2 := by
   intro cs hm
   rw [hcs] at hm
   obtain ⟨p', _, rfl⟩ := List.mem_map.1 hm
   rfl
  have f0 := flat_get css hcl i 0 _ _ hc (show p.cs[0]? = some (.int .i64 p.r) from rfl)
  have f1 := flat_get css hcl i 1 _ _ hc (show p.cs[1]? = some (.slice p.a p.n p.c) from rfl)
  rw [← htk] at f0 f1
  have hds : Dat.size FPack = 2 := rfl
  rw [hds] at f0 f1
  rw [List.getElem?_take_of_lt (by omega)] at f0 f1
  refine ⟨?_, ?_⟩
  ·rw [← Array.getElem?_toList]; simpa using f0
  ·rw [← Array.getElem?_toList]; exact f1
theorem RowF.els {w : World} {g : Nat} {ps : List PkV} {fps : List FPack} {Z S : Nat → Prop} (h : RowF w g ps) (hr : Rel2 (PkR w Z) ps fps) (hS : S g) (hZ : ∀ b, Z b → S b) : Els w S fps (some ⟨g, 0, none⟩) := by
 intro _
 refine ⟨g, 0, rfl, hS, fun i f hf => ?_⟩
 have hil : i < ps.length := by rw [hr.length]; exact (List.getElem?_eq_some_iff.1 hf).1
 obtain ⟨p, hp⟩ := get_some hil
 obtain ⟨f', h1, h2⟩ := hr.get i p hp
 rw [hf] at h1
 injection h1 with h1
 subst h1
 obtain ⟨e1, e2, e3, e4, e5, e6⟩ := h2
 refine ⟨p.cs, ⟨.slice p.a p.n p.c, by unfold PkV.cs; rw [e1], e2, by rw [e3]; exact Vl.of_slice rfl e4 e5 (e6.keep (fun _ _ _ => rfl) hZ)⟩, fun j u hu => ?_⟩
 have c0 := h.cell0 hp
 have c1 := h.cell1 hp
 match j, hu with
 | 0, hu => simp [PkV.cs] at hu; subst hu; rw [Nat.zero_add, Nat.add_zero]; exact c0
 | 1, hu => simp [PkV.cs] at hu; subst hu; rw [Nat.zero_add]; exact c1
theorem PkR.kept {w w' : World} {Z X : Nat → Prop} {p : PkV} {f : FPack} (h : PkR w Z p f) (k : Kept X w w') (hx : ∀ b, Z b → ¬ X b) : PkR w' Z p f :=
 ⟨h.1, h.2.1, h.2.2.1, h.2.2.2.1, h.2.2.2.2.1, h.2.2.2.2.2.kept k hx⟩
theorem OwnX.tlt {α : Type} [Dat α] {w : World} {Z : Nat → Prop} {base : Nat} {e : TypeId} {v : Value} {xs : List α} (h : OwnX w Z base e v xs) : ∀ b, Z b → b < w.heap.size := by
 obtain ⟨_, _, _, _, _, h5⟩ := h
 exact h5
theorem BfV.row {g : Gram} {ws : List Int} {T : List (List Nat)} {PM SM LB hi : Nat} {D L M : List NKey} {w : World} {b n c : Nat} (h : BfV g ws T PM SM LB hi D L M (.slice (some ⟨b, 0, none⟩) n c) w) :
  (∀ (i : Nat) (x : NKey), L[i]? = some x → At w b (i * 4) (keyC x)) ∧ ∀ i, w.frozen? ⟨b, i, none⟩ = false := by
 have ho := h.ls.own (S := fun _ => False) (fun b hb => hb.elim)
 refine ⟨fun i x hx => ?_, fun i => ?_⟩
 ·obtain ⟨g', c', cs, hv, _, _, ⟨rfl, _⟩, hat⟩ := ho.at_ hx
  injection hv with h1 _ _
  injection h1 with h1
  injection h1 with h1 _ _
  subst h1
  exact hat
 ·obtain ⟨css, h1, _⟩ := h.ls
  rcases h1.2 with ⟨e, _⟩ | ⟨g', cap, cur, e, _, hh, _⟩
  ·cases e
  ·injection e with e1 _ _
   injection e1 with e1
   injection e1 with e1 _ _
   subst e1
   exact Blk'.frozen hh i
end Go.Proofs.YtjdojogjogenkaaDoor
