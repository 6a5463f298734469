/- Contracts: parlmake's Below and the stream's next. -/
import Derived.Test.YtnlpeiffbnlncaaDoorQp1
import Derived.Test.YtnlpeiffbnlncaaDoorChecked
namespace Go.Proofs.YtnlpeiffbnlncaaDoor
open Go.RowKit
set_option linter.unusedVariables false

/-- A number from 0 to n-1 is returned, and nothing turns. -/
def RetBelow (n : Int) (w : World) (e : Ending) (w' : World) : Prop := ∃ r : Int, 0 ≤ r ∧ r < n ∧ e = .returned (.int .i64 r) ∧ w = w'

theorem below_any (x n : Int) (w : World) (hx : I64 x) (hn : 1 ≤ n) (hn' : n ≤ 1000000000) : Calls Tryd.prog 32 #[.int .i64 x, .int .i64 n] w (RetBelow n w) := by
  have h1 : x.tmod n < n := Int.tmod_lt_of_pos x (by omega)
  have h2 : -n < x.tmod n := by
    have := Int.lt_tmod_of_pos x (b := n) (by omega)
    omega
  have HH := Lib.hid (And.intro h1 h2)
  have hn0 : (n == 0) = false := by simp; omega
  have hw : IntKind.i64.wrap (x.tmod n) = x.tmod n := IntWalk.i64_in _ (by omega)
  have Hn' := Lib.hid hn'
  clear hn' h1 h2
  by_cases h0 : x.tmod n < 0
  · have ha : IntKind.i64.wrap (x.tmod n + n) = x.tmod n + n := IntWalk.i64_in _ (by have := HH.out; have := Hn'.out; omega)
    go_enter Tryd.func32, Tryd.ntmps32
    go_wp2
    go_ret
    exact ⟨x.tmod n + n, by have := HH.out; omega, by omega, rfl, rfl⟩
  · go_enter Tryd.func32, Tryd.ntmps32
    go_wp2
    go_ret
    exact ⟨x.tmod n, by omega, by have := HH.out; omega, rfl, rfl⟩

theorem Els.cut {α : Type} [Dat α] {w : World} {S : Nat → Prop} {xs : List α} {A : Option Addr} {c k : Nat} (h : Els w S xs A) (hl : xs.length ≤ c) :
    Els w S (xs.drop k) (if c = k then A else A.map (·.add (k * Dat.size α))) := by
  intro hne
  have hlt : k < xs.length := by
    rcases Nat.lt_or_ge k xs.length with h1 | h1
    · exact h1
    · exact absurd (List.drop_of_length_le h1) hne
  obtain ⟨b, o, rfl, hb, hx⟩ := h (by rintro rfl; simp at hlt)
  rw [if_neg (by omega)]
  refine ⟨b, o + k * Dat.size α, ?_, hb, fun i x hi => ?_⟩
  · simp only [Option.map_some]
    congr 1
    unfold Addr.add; split <;> simp_all
  · rw [List.getElem?_drop] at hi
    obtain ⟨cs, h1, h2⟩ := hx _ x hi
    exact ⟨cs, h1, by rw [show o + k * Dat.size α + i * Dat.size α = o + (k + i) * Dat.size α from by rw [Nat.add_mul]; omega]; exact h2⟩

/-- The stream's block g holds a list of numbers that lies in S. -/
def StreamAt (S : Nat → Prop) (w : World) (g : Nat) : Prop :=
  ∃ (xs : List Int) (A : Option Addr) (c : Nat), w.cell? ⟨g, 0, none⟩ = some (.slice A xs.length c) ∧ w.frozen? ⟨g, 0, none⟩ = false ∧ xs.length ≤ c ∧ c ≤ 9223372036854775807 ∧ Els w S xs A
theorem StreamAt.keep {S : Nat → Prop} {w w' : World} {g : Nat} (h : StreamAt S w g) (hg : ∀ i, w'.cell? ⟨g, i, none⟩ = w.cell? ⟨g, i, none⟩) (hf : ∀ i, w'.frozen? ⟨g, i, none⟩ = w.frozen? ⟨g, i, none⟩)
    (hk : ∀ p : Addr, S p.block → p.block < w.heap.size → w'.cell? p = w.cell? p) : StreamAt S w' g := by
  obtain ⟨xs, A, c, h1, h2, h3, h4, h5⟩ := h
  exact ⟨xs, A, c, (hg 0).trans h1, (hf 0).trans h2, h3, h4, h5.keep hk (fun _ h => h)⟩
theorem StreamAt.below {S : Nat → Prop} {w w' : World} {g B : Nat} (h : StreamAt S w g) (hb : Below B w w') (hB : w.heap.size ≤ B) : StreamAt S w' g := by
  have hl : g < w.heap.size := by obtain ⟨xs, A, c, h1, _⟩ := h; exact World.block_lt_of_cell? w _ h1
  exact h.keep (fun i => hb.cell (p := ⟨g, i, none⟩) (by show g < B; omega)) (fun i => hb.frozen (p := ⟨g, i, none⟩) (by show g < B; omega)) (fun p _ hp => hb.cell (by omega))
theorem StreamAt.alloc {S : Nat → Prop} {w : World} {g : Nat} (h : StreamAt S w g) (o : Obj) (_ : True) : StreamAt S (w.alloc o) g := h.below ((Below.refl _ _).alloc (Nat.le_refl _) o) (Nat.le_refl _)
theorem StreamAt.grown {S : Nat → Prop} {w w' : World} {g : Nat} {row : Option Nat} (h : StreamAt S w g) (hb : w.grownBy w' row) (hg : some g ≠ row) (hS : ∀ k, row = some k → ¬ S k) : StreamAt S w' g := by
  have hl : g < w.heap.size := by obtain ⟨xs, A, c, h1, _⟩ := h; exact World.block_lt_of_cell? w _ h1
  have hk := hb.block g hl hg
  exact h.keep (fun i => World.cell?_of_block (a := ⟨g, i, none⟩) hk) (fun i => World.frozen?_of_block (a := ⟨g, i, none⟩) hk) (fun p hp hlt => World.cell?_of_block (hb.block p.block hlt (fun e => hS _ e.symm hp)))
theorem StreamAt.setCell {S : Nat → Prop} {w : World} {g : Nat} (h : StreamAt S w g) {p : Addr} (hp : g ≠ p.block) (hS : ¬ S p.block) (u : Value) : StreamAt S (w.setCell p u) g :=
  h.grown (row := some p.block) ⟨rfl, rfl, rfl, by simp [World.setCell], fun k _ hk => Below.heap_setCell _ _ _ _ (fun e => hk (by rw [e]))⟩ (fun e => hp (by injection e)) (fun k hk => by injection hk with hk; rw [← hk]; exact hS)
/-- A number from 0 to n-1 is returned; only the stream's block has turned. -/
def RetNext (S : Nat → Prop) (g : Nat) (n : Int) (w : World) (e : Ending) (w' : World) : Prop :=
  ∃ r : Int, 0 ≤ r ∧ r < n ∧ e = .returned (.int .i64 r) ∧ StreamAt S w' g ∧ w.grownBy w' (some g)

set_option maxRecDepth 100000 in
theorem next_any (S : Nat → Prop) (g : Nat) (n : Int) (w : World) (hn : 1 ≤ n) (hn' : n ≤ 1000000000) (hS : ¬ S g) (h : StreamAt S w g) :
    Calls Tryd.prog 40 #[.pointer (some ⟨g, 0, none⟩), .int .i64 n] w (RetNext S g n w) := by
  obtain ⟨xs, A, c, hc, hf, h1, h2, hA⟩ := h
  have HA := Lib.hid hA
  have Hn' := Lib.hid hn'
  clear hn' hA
  cases xs with
  | nil =>
    simp only [List.length_nil] at hc
    go_enter Tryd.func40, Tryd.ntmps40
    go_wp2_with fail
    go_ret
    exact ⟨0, by omega, by omega, rfl, ⟨[], A, c, hc, hf, h1, h2, HA.out⟩, World.grownBy.refl w _⟩
  | cons x xs =>
    simp only [List.length_cons] at hc h1
    obtain ⟨b, o, rfl, hb, hbs, hi, hcell⟩ := HA.out.int (k := 0) rfl
    simp only [Nat.add_zero] at hcell
    have hne : ((xs.length : Int) + 1 == 0) = false := by simp; omega
    have hne' : (0 : Int) < (xs.length : Int) + 1 := by omega
    have hc1 : (1 : Int) ≤ (c : Int) := by omega
    have hc2 : (xs.length : Int) + 1 ≤ (c : Int) := by omega
    have hgl : g < w.heap.size := World.block_lt_of_cell? w _ hc
    have hgr : ∀ u, w.grownBy (w.setCell ⟨g, 0, none⟩ u) (some g) := fun u => ⟨rfl, rfl, rfl, by simp [World.setCell], fun k hk hne => Below.heap_setCell _ _ _ _ (fun e => hne (by rw [e]))⟩
    have hst : ∀ (A' : Option Addr) (c' : Nat), xs.length ≤ c' → c' ≤ 9223372036854775807 → Els w S xs A' → StreamAt S (w.setCell ⟨g, 0, none⟩ (.slice A' xs.length c')) g := fun A' c' q1 q2 q3 =>
      ⟨xs, A', c', World.cell?_setCell_same _ _ _ hc, by rw [World.frozen?_setCell]; exact hf, q1, q2, q3.keep (fun p hp _ => World.cell?_setCell_other _ _ _ _ (fun e => hS (by rw [← e] at hp; exact hp))) (fun _ h => h)⟩
    have Hst := Lib.hid hst
    have Hgr := Lib.hid hgr
    clear hst hgr
    have hcut := HA.out.cut (k := 1) (c := c) (by simpa using h1)
    have Hcut := Lib.hid hcut
    clear hcut
    by_cases hc0 : c = 1
    · subst hc0
      obtain rfl : xs = [] := List.eq_nil_of_length_eq_zero (by omega)
      simp only [List.length_nil, Nat.zero_add] at hc
      clear hne hne' hc1 hc2
      go_enter Tryd.func40, Tryd.ntmps40
      go_wp2_with fail
      refine (below_any x n _ hi hn Hn'.out).mono ?_
      rintro e w1 ⟨r, hr0, hr1, rfl, rfl⟩
      go_wp2
      go_ret
      exact ⟨r, hr0, hr1, rfl, Hst.out (some ⟨b, o, none⟩) 0 (by simp) (by omega) (fun h => absurd rfl h), Hgr.out _⟩
    · have Hc0 := Lib.hid hc0
      go_enter Tryd.func40, Tryd.ntmps40
      go_wp2_with fail
      refine (below_any x n _ hi hn Hn'.out).mono ?_
      rintro e w1 ⟨r, hr0, hr1, rfl, rfl⟩
      go_wp2
      go_ret
      have he : Els w S xs (some ⟨b, o + 1, none⟩) := by have h := Hcut.out; rwa [if_neg Hc0.out] at h
      exact ⟨r, hr0, hr1, rfl, Hst.out (some ⟨b, o + 1, none⟩) (c - 1) (by omega) (by omega) he, Hgr.out _⟩
end Go.Proofs.YtnlpeiffbnlncaaDoor
