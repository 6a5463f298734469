/- The contract of the law GramOrders over arguments that read as data. -/
import Derived.Test.YtmfakaicgbpmfaaGramOrdersL
import Derived.Test.YtmfakaicgbpmfaaOpen
namespace Go.Proofs.Ytmfakaicgbpmfaa
open Go.RowKit

theorem blkAll_syms : ∀ (l : List Sym), blkAll l = 3 * l.length
  | [] => rfl
  | x :: l => by rw [blkAll, blkAll_syms l, List.length_cons]; show 3 + _ = _; omega
theorem gramOrders_row (a b : Sym) (p q : Rule) (va vb vp vq : Value) (W : World) (ha : Vl W (OldS W) a va) (hb : Vl W (OldS W) b vb) (hp : Vl W (OldS W) p vp) (hq : Vl W (OldS W) q vq)
    (hk : Blk.blk a + (Blk.blk b + (Blk.blk p + (Blk.blk q + 0))) ≤ 1048576) :
    Calls Try.prog 3 #[va, vb, vp, vq] W fun e W' => e = .returned (.bool true) ∧ Below W.heap.size W W' := by
  obtain ⟨rfl, ia⟩ := ha.sym
  obtain ⟨rfl, ib⟩ := hb.sym
  obtain ⟨sp, rfl, _, hsp⟩ := hp.rule
  obtain ⟨sq, rfl, _, hsq⟩ := hq.rule
  obtain ⟨A, c, rfl, h1, h2, hA⟩ := hsp.slice
  obtain ⟨A', c', rfl, h1', h2', hA'⟩ := hsq.slice
  have e1 : Blk.blk p = 2 + (blkAll p.right + 1) := rfl
  have e2 : Blk.blk q = 2 + (blkAll q.right + 1) := rfl
  rw [blkAll_syms] at e1 e2
  exact gramOrders_any a b p.left q.left A A' c c' p.right q.right (OldS W) W ia ib (by omega) h1 h2 h1' h2' hA hA' (fun b h => h)
end Go.Proofs.Ytmfakaicgbpmfaa
