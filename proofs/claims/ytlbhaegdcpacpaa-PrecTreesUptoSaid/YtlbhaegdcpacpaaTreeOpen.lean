/- What the type of trees (a type that leads to itself) reads as: by recursion on the reading's own fuel. -/
import Derived.Test.YtlbhaegdcpacpaaOpens
import Derived.Test.YtlbhaegdcpacpaaNodes
namespace Go.Proofs.Ytlbhaegdcpacpaa
open Go.RowKit Go.ChangeShapes Go.WideShapes Go.Deep

def OpensAt (P : Program) (α : Type) [Dat α] [Blk α] (t : TypeId) (fuel : Nat) : Prop :=
  ∀ {H : Type} (enc : TypeId × Value → H) (w : World) (base : Nat) (spare : Nat → Bool) (held : Bool) (cs : List Value) (y : DataW H × List MemPlace),
    DataW.trod enc P w base spare held fuel t cs = some y → ∃ x : α, Dat.rd w (OldS w) x cs ∧ Blk.blk x ≤ Rows.uptoBulk y.1

theorem bulkAll_two {H β : Type} {α : Type} [Blk α] : ∀ (ys : List (DataW H × β)) (xs : List α), xs.length = ys.length → (∀ (i : Nat) (x : α) (z : DataW H × β), xs[i]? = some x → ys[i]? = some z → Blk.blk x ≤ Rows.uptoBulk z.1) → blkAll xs ≤ Rows.uptoBulkAll (ys.map (·.1))
  | [], [], _, _ => by simp [blkAll]
  | [], _ :: _, h, _ => by simp at h
  | _ :: _, [], h, _ => by simp at h
  | y :: ys, x :: xs, h, hi => by
    have h0 := hi 0 x y rfl rfl
    have ih := bulkAll_two ys xs (by simpa using h) (fun i a z ha hz => hi (i + 1) a z (by simpa using ha) (by simpa using hz))
    simp only [List.map_cons, blkAll, Rows.uptoBulkAll]
    omega

section
variable {P : Program}
theorem opensAt_slice {α : Type} [Dat α] [Blk α] {t e : TypeId} {fuel : Nat} (ht : P.underlying t = some (.slice e)) (hC : P.cellsOf e = Dat.size α) (he : ∀ n, fuel = n + 1 → OpensAt P α e n) : OpensAt P (List α) t fuel := by
  intro H enc w base spare held cs y h
  rcases DataW.trod_slice ht h with ⟨rfl, rfl⟩ | ⟨a, len, cap, elems, rest, n, hn, rfl, rfl, hb, hl, hm, hlen, hel, _, _⟩
  · exact ⟨[], ⟨none, 0, rfl, by simp, by simp, fun h => absurd rfl h⟩, by simp [Rows.uptoBulk, Blk.blk, blkAll]⟩
  · obtain ⟨xs, hxl, hx⟩ := list_of_lt (R := fun i (x : α) => (∃ cs, w.cells? base (a.add (i * Dat.size α)) (Dat.size α) = some cs ∧ Dat.rd w (OldS w) x cs) ∧ ∀ z, elems[i]? = some z → Blk.blk x ≤ Rows.uptoBulk z.1) len (fun i hil => by
      have h1 := hel i hil
      obtain ⟨z, hz⟩ : ∃ z, elems[i]? = some z := ⟨_, List.getElem?_eq_getElem (by omega)⟩
      rw [hz] at h1
      obtain ⟨cs', hc, ht'⟩ := Option.bind_eq_some_iff.1 h1
      obtain ⟨x, k1, k2⟩ := he n hn enc w base spare held cs' z ht'
      rw [hC] at hc
      exact ⟨x, ⟨cs', hc, k1⟩, fun z' hz' => by rw [hz] at hz'; cases hz'; exact k2⟩)
    refine ⟨xs, ⟨some a, cap, by rw [hxl], by omega, hm, els_of_cells hxl fun i x hi => (hx i x hi).1⟩, ?_⟩
    have hb := bulkAll_two elems xs (by omega) (fun i x z hi hz => (hx i x hi).2 z hz)
    simp only [Rows.uptoBulk, Blk.blk]
    omega

theorem opens_tree {t : TypeId} {f0 f1 f2 : Field} (hs : P.underlying t = some (.struct #[f0, f1, f2])) (hone : oneCellFields P #[f0, f1, f2] = true) (hC : P.cellsOf t = 3) (h0 : Opens P Int f0.type) (h1 : Opens P Int f1.type) (h2 : P.underlying f2.type = some (.slice t)) : ∀ fuel, OpensAt P Tree t fuel := by
  intro fuel
  induction fuel using Nat.strongRecOn with
  | _ fuel ih =>
    intro H enc w base spare held cs y h
    obtain ⟨n, ys, hn, hy, hl, hyl, hf⟩ := trod_fields hs hone hC h
    match cs, hl, ys, hyl with
    | [c0, c1, c2], _, [y0, y1, y2], _ =>
      obtain ⟨z0, ⟨hz0, hz0'⟩, hb0⟩ := h0 enc w base spare held n [c0] y0 (hf 0 f0 c0 y0 rfl rfl rfl)
      obtain ⟨z1, ⟨hz1, hz1'⟩, hb1⟩ := h1 enc w base spare held n [c1] y1 (hf 1 f1 c1 y1 rfl rfl rfl)
      obtain ⟨r, hr, hbr⟩ := opensAt_slice (α := Tree) (fuel := n) h2 hC (fun m hm => ih m (by omega)) enc w base spare held [c2] y2 (hf 2 f2 c2 y2 rfl rfl rfl)
      obtain rfl : c0 = .int .i64 z0 := by simpa using hz0
      obtain rfl : c1 = .int .i64 z1 := by simpa using hz1
      obtain ⟨v, hv, hvl⟩ := rd_slice hr
      obtain rfl : c2 = v := by simpa using hv
      refine ⟨⟨z0, z1, r⟩, rd_tree.2 ⟨c2, rfl, hz0', hz1', hvl⟩, ?_⟩
      rw [hy]
      have e0 : Blk.blk z0 = 1 := rfl
      have e1 : Blk.blk z1 = 1 := rfl
      have er : Blk.blk r = blkAll r + 1 := rfl
      simp only [List.map_cons, List.map_nil, Rows.uptoBulk, Rows.uptoBulkAll]
      show blkTree ⟨z0, z1, r⟩ ≤ _
      rw [blkTree, blkTrees_eq]
      omega
end
mutual
theorem nodes_blk : ∀ t : Tree, 4 * nodesT t ≤ blkTree t
  | ⟨a, b, ks⟩ => by rw [nodesT, blkTree]; have := nodes_blks ks; omega
theorem nodes_blks : ∀ ks : List Tree, 4 * nodesL ks ≤ blkTrees ks
  | [] => by simp [nodesL, blkTrees]
  | k :: ks => by rw [nodesL, blkTrees]; have := nodes_blk k; have := nodes_blks ks; omega
end
theorem opensTree : Opens Try.prog Tree 27 := fun enc w base spare held fuel cs y h => opens_tree Try.underlying27 (by kernel_rfl) (by kernel_rfl) (opens_int Try.underlying3) (opens_int Try.underlying3) Try.underlying25 fuel enc w base spare held cs y h
end Go.Proofs.Ytlbhaegdcpacpaa
