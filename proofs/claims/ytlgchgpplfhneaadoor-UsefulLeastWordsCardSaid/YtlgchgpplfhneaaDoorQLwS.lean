/- The state of the search for the least words: what the tables hold on the way, in memory. -/
import Derived.Test.YtlgchgpplfhneaaDoorQLeastW
import Derived.Test.YtlgchgpplfhneaaDoorQp1
import Derived.WalkSmall
namespace Go.Proofs.YtlgchgpplfhneaaDoor
open Go.RowKit
set_option linter.unusedVariables false

theorem RowsW.at_below {w w' : World} {OB n B : Nat} {W : List (List Int)} (h : RowsW w OB n B W) (k : Below w.heap.size w w') {m : Nat} {u : List Int} (hu : W[m]? = some u) : ∃ (A : Option Addr) (c : Nat), w'.cell? ⟨OB, m, none⟩ = some (.slice A u.length c) ∧ u.length ≤ c ∧ c ≤ 9223372036854775807 ∧ Els w' (fun b => B ≤ b ∧ b < w.heap.size) u A := by
  obtain ⟨A, c, h1, h2, h3, h4⟩ := h.at_ hu
  exact ⟨A, c, (k.cell h.lt).trans h1, h2, h3, h4.below k⟩
theorem at_new1 (w : World) (cs : List Value) (t : TypeId) (ob : Obj) : At ((w.alloc ob).alloc (.cells cs.toArray t)) (w.heap.size + 1) 0 cs := by
  have h := At.new (w.alloc ob) cs t
  rwa [show (w.alloc ob).heap.size = w.heap.size + 1 from by simp] at h
structure LwS (w : World) (g : Gram) (n OB LB : Nat) (L : List Int) (z gc : Array Value) (W : List (List Int)) (K : List Bool) (wr : World) : Prop where
  snd : SndT g n L W K
  in8 : In8W W
  rows : RowsW wr OB n (OB + 2) W
  kb : Blk' wr (OB + 1) 4 (bcells K)
  below : Below w.heap.size w wr
  gb : Blk' wr w.heap.size 25 gc
  lb : Blk' wr LB 3 (icells L ++ z)
section
variable {w : World} {g : Gram} {n OB LB : Nat} {L : List Int} {z gc : Array Value} {W W0 : List (List Int)} {K K0 : List Bool} {wq wr : World}
theorem LwS.next (h : LwS w g n OB LB L z gc W K wq) (k : Below wq.heap.size wq wr) : LwS w g n OB LB L z gc W K wr :=
  ⟨h.snd, h.in8, h.rows.below k, h.kb.below k h.kb.lt, bthen h.below k h.below.size, h.gb.below k h.gb.lt, h.lb.below k h.lb.lt⟩
theorem LwS.store (h : LwS w g n OB LB L z gc W K wr) (hr : RulesIn g n) {q : Rule} (hq : q ∈ g.rules) (ho : okR L W K q) (h8 : In8 (catW W q.right)) (hz : w.heap.size < OB) (hl : LB < OB) {A : Option Addr} {c : Nat} (hc1 : (catW W q.right).length ≤ c) (hc2 : c ≤ 9223372036854775807) (hA : Els wr (fun b => OB + 2 ≤ b ∧ b < wr.heap.size) (catW W q.right) A) :
    LwS w g n OB LB L z gc (W.set q.left.toNat (catW W q.right)) (K.set q.left.toNat true) ((wr.setCell ⟨OB, q.left.toNat, none⟩ (.slice A (catW W q.right).length c)).setCell ⟨OB + 1, q.left.toNat, none⟩ (.bool true)) := by
  have k1 : Kept (fun b => b = OB) wr (wr.setCell ⟨OB, q.left.toNat, none⟩ (.slice A (catW W q.right).length c)) := (Kept.refl (fun b => b = OB) wr).setCell (p := ⟨OB, q.left.toNat, none⟩) (.inl rfl) _
  have k2 : Kept (fun b => b = OB + 1) (wr.setCell ⟨OB, q.left.toNat, none⟩ (.slice A (catW W q.right).length c)) ((wr.setCell ⟨OB, q.left.toNat, none⟩ (.slice A (catW W q.right).length c)).setCell ⟨OB + 1, q.left.toNat, none⟩ (.bool true)) := (Kept.refl (fun b => b = OB + 1) _).setCell (p := ⟨OB + 1, q.left.toNat, none⟩) (.inl rfl) _
  have h1 := hr q hq
  refine ⟨h.snd.step hr hq ho, h.in8.set_ h8 (by have := ho.2.2; omega) _, (h.rows.set_ (by omega) h1.2.1 hc1 hc2 hA).kept k2 (by omega) (fun b hb => by omega), ?_, (h.below.setCell (by show w.heap.size ≤ OB; omega) _).setCell (by show w.heap.size ≤ OB + 1; omega) _, (h.gb.kept k1 (by omega)).kept k2 (by omega), (h.lb.kept k1 (by omega)).kept k2 (by omega)⟩
  have h3 := (h.kb.kept k1 (by omega)).set_ q.left.toNat (.bool true)
  rw [bcells_set] at h3
  exact h3
def LwJ (w : World) (g : Gram) (n OB LB : Nat) (L : List Int) (z gc : Array Value) (rs : List Rule) (W0 : List (List Int)) (K0 : List Bool) (a : Bool) (j : Nat) (W : List (List Int)) (K : List Bool) (wr : World) : Prop :=
  LwS w g n OB LB L z gc W K wr ∧ (a = false → W = W0 ∧ K = K0 ∧ ∀ q ∈ rs.take j, Stab1 L W0 K0 q) ∧ (a = true → msr (p8 2000) W K < msr (p8 2000) W0 K0)
variable {rs : List Rule} {a : Bool} {j : Nat} {q : Rule}
theorem LwJ.start (h : LwS w g n OB LB L z gc W K wr) : LwJ w g n OB LB L z gc rs W K false 0 W K wr := ⟨h, fun _ => ⟨rfl, rfl, by simp⟩, fun h => by simp at h⟩
theorem LwJ.no (h : LwJ w g n OB LB L z gc rs W0 K0 a j W K wq) (hq : rs[j]? = some q) (hs : Stab1 L W K q) (k : Below wq.heap.size wq wr) : LwJ w g n OB LB L z gc rs W0 K0 a (j + 1) W K wr := by
  refine ⟨h.1.next k, fun e => ?_, h.2.2⟩
  obtain ⟨e1, e2, e3⟩ := h.2.1 e
  refine ⟨e1, e2, fun x hx => ?_⟩
  rw [take_snoc hq] at hx
  rcases List.mem_append.1 hx with hx | hx
  · exact e3 x hx
  · simp at hx; subst hx; rw [← e1, ← e2]; exact hs
theorem LwJ.yes (h : LwJ w g n OB LB L z gc rs W0 K0 a j W K wq) (hq : rs[j]? = some q) (hr : RulesIn g n) (hm : q ∈ g.rules) (ho : okR L W K q) (h8 : In8 (catW W q.right)) (hb : K.getD q.left.toNat false = true → cmpL (catW W q.right) (W.getD q.left.toNat []) < 0) (k : Below wq.heap.size wq wr) (hz : w.heap.size < OB) (hl : LB < OB) {A : Option Addr} {c : Nat} (hc1 : (catW W q.right).length ≤ c) (hc2 : c ≤ 9223372036854775807) (hA : Els wr (fun b => OB + 2 ≤ b ∧ b < wr.heap.size) (catW W q.right) A) :
    LwJ w g n OB LB L z gc rs W0 K0 true (j + 1) (W.set q.left.toNat (catW W q.right)) (K.set q.left.toNat true) ((wr.setCell ⟨OB, q.left.toNat, none⟩ (.slice A (catW W q.right).length c)).setCell ⟨OB + 1, q.left.toNat, none⟩ (.bool true)) := by
  refine ⟨(h.1.next k).store hr hm ho h8 hz hl hc1 hc2 hA, fun e => by simp at e, fun _ => ?_⟩
  have h1 := msr_better (K := K) (i := q.left.toNat) h.1.snd.lw h.1.snd.lk (hr q hm).2.1 h.1.in8 h8 (by have := ho.2.2; omega) (fun hk => ⟨by obtain ⟨_, _, _, h4, _⟩ := h.1.snd.known _ hk; have := ho.2.1; omega, hb hk⟩)
  cases a
  · obtain ⟨e1, e2, _⟩ := h.2.1 rfl
    rw [← e1, ← e2]; exact h1
  · have := h.2.2 rfl; omega
theorem LwJ.drew (h : LwJ w g n OB LB L z gc rs W0 K0 a j W K wr) : LwJ w g n OB LB L z gc rs W0 K0 a j W K wr.drew := ⟨h.1.next ((Below.refl _ _).drew), h.2⟩
theorem LwJ.drewN (h : LwJ w g n OB LB L z gc rs W0 K0 a j W K wr) (k : Nat) : LwJ w g n OB LB L z gc rs W0 K0 a j W K (wr.drewN k) := ⟨h.1.next (below_drewN (Below.refl _ _) k), h.2⟩
theorem LwJ.alloc (h : LwJ w g n OB LB L z gc rs W0 K0 a j W K wr) (o : Obj) : LwJ w g n OB LB L z gc rs W0 K0 a j W K (wr.alloc o) := ⟨h.1.next ((Below.refl _ _).alloc (Nat.le_refl _) o), h.2⟩
/-- Round the rules once more. -/
def LwO (w : World) (g : Gram) (n OB LB : Nat) (L : List Int) (z gc : Array Value) (gk : Nat) (ag : Value) (wr : World) : Prop :=
  ∃ (W : List (List Int)) (K : List Bool) (b : Bool), ag = .bool b ∧ LwS w g n OB LB L z gc W K wr ∧ (b = false → StabT g L W K) ∧ msr (p8 2000) W K + (if b then 1 else 0) ≤ gk
theorem LwJ.end_ (h : LwJ w g n OB LB L z gc g.rules W0 K0 a g.rules.length W K wr) {gk : Nat} (hg : msr (p8 2000) W0 K0 + 1 ≤ gk) : msr (p8 2000) W K + (if a then 1 else 0) < gk ∧ (a = false → StabT g L W K) := by
  refine ⟨?_, fun e => ?_⟩
  · cases a
    · obtain ⟨e1, e2, _⟩ := h.2.1 rfl
      rw [e1, e2]; simp; omega
    · have := h.2.2 rfl; simp; omega
  · obtain ⟨e1, e2, e3⟩ := h.2.1 e
    rw [List.take_length] at e3
    rw [e1, e2]
    exact fun q hq ho => e3 q hq ho
end
def LwRet (g : Gram) (n m : Nat) (L : List Int) (w : World) (e : Ending) (w' : World) : Prop :=
  ∃ (W : List (List Int)) (K : List Bool) (A : Option Addr) (c : Nat), e = .returned (.slice A (W.getD m []).length c) ∧ SndT g n L W K ∧ StabT g L W K ∧ (W.getD m []).length ≤ c ∧ c ≤ 9223372036854775807 ∧ Els w' (fun b => w.heap.size ≤ b ∧ b < w'.heap.size) (W.getD m []) A ∧ Below w.heap.size w w'
end Go.Proofs.YtlgchgpplfhneaaDoor
