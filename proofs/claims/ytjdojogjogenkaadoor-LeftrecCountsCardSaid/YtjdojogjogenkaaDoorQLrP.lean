/- Plain: what leftrec.There and Back make of trees. No program is named here. -/
import Derived.Test.YtjdojogjogenkaaDoorQLeftP
import Derived.Test.YtjdojogjogenkaaDoorQp1
namespace Go.Proofs.YtjdojogjogenkaaDoor
open Go.RowKit
set_option linter.unusedVariables false
def ruleAt (g : Gram) (r : Int) : Rule := g.rules.getD r.toNat ⟨0, []⟩
def tlT (g : Gram) (n : Nat) (r : Int) : Int := tailI g n (ruleAt g r).left.toNat
def endT (g : Gram) (n : Nat) (k : Int) : Tree := ⟨(g.rules.length : Int) + k - n, 0, []⟩
mutual
def thT (g : Gram) (n : Nat) : Tree → Tree
 | ⟨r, t, ks⟩ => if r < 0 then ⟨-1, t, []⟩ else if tlT g n r < 0 then ⟨r, 0, thL g n ks⟩ else if recB (ruleAt g r) then thH g n r (endT g n (tlT g n r)) ks else ⟨r, 0, thL g n ks ++ [endT g n (tlT g n r)]⟩
def thS (g : Gram) (n : Nat) : Tree → Tree → Tree
 | ⟨r, t, ks⟩, e => if recB (ruleAt g r) then thH g n r e ks else ⟨r, 0, thL g n ks ++ [e]⟩
def thH (g : Gram) (n : Nat) (r : Int) (e : Tree) : List Tree → Tree
 | [] => e
 | k :: ks => thS g n k ⟨r, 0, thL g n ks ++ [e]⟩
def thL (g : Gram) (n : Nat) : List Tree → List Tree
 | [] => []
 | k :: ks => thT g n k :: thL g n ks
end
mutual
def bkT (g : Gram) (n : Nat) : Tree → Tree
 | ⟨r, t, ks⟩ => if r < 0 then ⟨-1, t, []⟩ else if tlT g n r < 0 then ⟨r, 0, bkL g n ks⟩ else bkW g n r [] ks
def bkW (g : Gram) (n : Nat) (r : Int) (acc : List Tree) : List Tree → Tree
 | [] => ⟨r, 0, acc⟩
 | [x] => bkX g n ⟨r, 0, acc⟩ x
 | k :: k' :: ks => bkW g n r (acc ++ [bkT g n k]) (k' :: ks)
def bkX (g : Gram) (n : Nat) (o : Tree) : Tree → Tree
 | ⟨r, t, ks⟩ => if r.toNat < g.rules.length then bkW g n r [o] ks else o
def bkL (g : Gram) (n : Nat) : List Tree → List Tree
 | [] => []
 | k :: ks => bkT g n k :: bkL g n ks
end
theorem thL_map (g : Gram) (n : Nat) : ∀ ks, thL g n ks = ks.map (thT g n)
 | [] => rfl
 | k :: ks => by simp [thL, thL_map g n ks]
theorem bkL_map (g : Gram) (n : Nat) : ∀ ks, bkL g n ks = ks.map (bkT g n)
 | [] => rfl
 | k :: ks => by simp [bkL, bkL_map g n ks]
theorem bkW_snoc (g : Gram) (n : Nat) (r : Int) (x : Tree) : ∀ (ks acc : List Tree), bkW g n r acc (ks ++ [x]) = bkX g n ⟨r, 0, acc ++ bkL g n ks⟩ x
 | [], acc => by simp [bkW, bkL]
 | [k], acc => by simp [bkW, bkL]
 | k :: k' :: ks, acc => by
  have h := bkW_snoc g n r x (k' :: ks) (acc ++ [bkT g n k])
  simp only [List.cons_append] at h ⊢
  rw [bkW, h]
  simp [bkL]
theorem thS_eq (g : Gram) (n : Nat) (r t : Int) (ks : List Tree) (e : Tree) : thS g n ⟨r, t, ks⟩ e = if recB (ruleAt g r) then thH g n r e ks else ⟨r, 0, thL g n ks ++ [e]⟩ := by rw [thS]
theorem thH_cons (g : Gram) (n : Nat) (r : Int) (e k : Tree) (ks : List Tree) : thH g n r e (k :: ks) = thS g n k ⟨r, 0, thL g n ks ++ [e]⟩ := by rw [thH]
theorem thT_eq (g : Gram) (n : Nat) (r t : Int) (ks : List Tree) : thT g n ⟨r, t, ks⟩ = if r < 0 then ⟨-1, t, []⟩ else if tlT g n r < 0 then ⟨r, 0, thL g n ks⟩ else thS g n ⟨r, t, ks⟩ (endT g n (tlT g n r)) := by
 rw [thT, thS_eq]
theorem bkT_eq (g : Gram) (n : Nat) (r t : Int) (ks : List Tree) : bkT g n ⟨r, t, ks⟩ = if r < 0 then ⟨-1, t, []⟩ else if tlT g n r < 0 then ⟨r, 0, bkL g n ks⟩ else bkW g n r [] ks := by rw [bkT]
theorem bkX_eq (g : Gram) (n : Nat) (o : Tree) (r t : Int) (ks : List Tree) : bkX g n o ⟨r, t, ks⟩ = if r.toNat < g.rules.length then bkW g n r [o] ks else o := by rw [bkX]
end Go.Proofs.YtjdojogjogenkaaDoor
