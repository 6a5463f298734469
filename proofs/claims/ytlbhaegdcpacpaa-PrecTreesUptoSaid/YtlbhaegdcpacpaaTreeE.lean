/- What gram.Tree computes of a tree: an error number, and how many nodes were visited. No program is named here. -/
import Derived.Test.YtlbhaegdcpacpaaFirstP
namespace Go.Proofs.Ytlbhaegdcpacpaa
open Go.RowKit
set_option linter.unusedVariables false

/-- The symbol at the root of a tree. -/
def rootS (g : Gram) : Tree → Sym
  | ⟨r, t, _⟩ => if r < 0 then ⟨true, t⟩ else match g.rules[r.toNat]? with
    | some q => ⟨false, q.left⟩
    | none => ⟨true, t⟩
mutual
/-- The error of a tree, and the number of nodes behind it; n nodes were visited ahead of it. -/
def visitE (g : Gram) : Tree → Int → Int × Int
  | ⟨r, t, ks⟩, n => if 5000 ≤ n then (2, n + 1) else if r = -1 then (if t < 0 ∨ g.terms ≤ t ∨ ks ≠ [] then (3, n + 1) else (0, n + 1)) else if r < 0 then (3, n + 1) else match g.rules[r.toNat]? with
    | none => (3, n + 1)
    | some q => if t ≠ 0 ∨ ks.length ≠ q.right.length then (3, n + 1) else kidsE g ks q.right (n + 1)
def kidsE (g : Gram) : List Tree → List Sym → Int → Int × Int
  | k :: ks, s :: ss, n => if (visitE g k n).1 ≠ 0 then visitE g k n else if rootS g k ≠ s then (3, (visitE g k n).2) else kidsE g ks ss (visitE g k n).2
  | [], _, n => (0, n)
  | _ :: _, [], n => (0, n)
end
def treeE (g : Gram) (t : Tree) : Int := (visitE g t 0).1

mutual
theorem visitE_bd (g : Gram) : ∀ (t : Tree) (n : Int), 0 ≤ n → n ≤ 5000 → 0 ≤ (visitE g t n).2 ∧ (visitE g t n).2 ≤ 5001 ∧ ((visitE g t n).1 = 0 → (visitE g t n).2 ≤ 5000) ∧ 0 ≤ (visitE g t n).1 ∧ (visitE g t n).1 ≤ 3
  | ⟨r, t, ks⟩, n, h0, h1 => by
    unfold visitE
    split
    · exact ⟨by dsimp only; omega, by dsimp only; omega, fun h => by dsimp only at h; omega, by dsimp only; omega, by dsimp only; omega⟩
    split
    · split
      · exact ⟨by dsimp only; omega, by dsimp only; omega, fun h => by dsimp only at h; omega, by dsimp only; omega, by dsimp only; omega⟩
      · exact ⟨by dsimp only; omega, by dsimp only; omega, fun h => by dsimp only; omega, by dsimp only; omega, by dsimp only; omega⟩
    split
    · exact ⟨by dsimp only; omega, by dsimp only; omega, fun h => by dsimp only at h; omega, by dsimp only; omega, by dsimp only; omega⟩
    split
    · exact ⟨by dsimp only; omega, by dsimp only; omega, fun h => by dsimp only at h; omega, by dsimp only; omega, by dsimp only; omega⟩
    split
    · exact ⟨by dsimp only; omega, by dsimp only; omega, fun h => by dsimp only at h; omega, by dsimp only; omega, by dsimp only; omega⟩
    · exact kidsE_bd g ks _ (n + 1) (by omega) (by omega)
theorem kidsE_bd (g : Gram) : ∀ (ks : List Tree) (ss : List Sym) (n : Int), 0 ≤ n → n ≤ 5000 → 0 ≤ (kidsE g ks ss n).2 ∧ (kidsE g ks ss n).2 ≤ 5001 ∧ ((kidsE g ks ss n).1 = 0 → (kidsE g ks ss n).2 ≤ 5000) ∧ 0 ≤ (kidsE g ks ss n).1 ∧ (kidsE g ks ss n).1 ≤ 3
  | [], ss, n, h0, h1 => by
    have e : kidsE g [] ss n = (0, n) := by cases ss <;> rfl
    rw [e]
    exact ⟨h0, by dsimp only; omega, fun _ => h1, by simp, by simp⟩
  | k :: ks, [], n, h0, h1 => by
    have e : kidsE g (k :: ks) [] n = (0, n) := rfl
    rw [e]
    exact ⟨h0, by dsimp only; omega, fun _ => h1, by simp, by simp⟩
  | k :: ks, s :: ss, n, h0, h1 => by
    have hk := visitE_bd g k n h0 h1
    unfold kidsE
    split
    · exact hk
    · rename_i hz
      have hz : (visitE g k n).1 = 0 := by omega
      have h5 := hk.2.2.1 hz
      split
      · exact ⟨hk.1, hk.2.1, fun h => by simp at h, by simp, by simp⟩
      · exact kidsE_bd g ks ss _ hk.1 h5
end
end Go.Proofs.Ytlbhaegdcpacpaa
