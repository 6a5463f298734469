/- Contracts: layout.Lines' closure is, layout.Strip, slices.Equal at tokens. -/
import Derived.Test.YtabehgggahnopaaLayW
import Derived.Test.YtabehgggahnopaaEqTok
import Derived.Deep.QuietTactic
import Derived.BigQuiet
namespace Go.Proofs.Ytabehgggahnopaa
open Go.RowKit
set_option linter.unusedVariables false

def isB (k : K3) (l : List Tok) (i j : Nat) : Bool := match l[j]? with
  | some t => decide (t.kind = kK k i)
  | none => false

set_option maxRecDepth 100000 in
set_option maxHeartbeats 4000000 in
theorem lis_any (k : K3) (l : List Tok) (A : Option Addr) (c : Nat) (S : Nat → Prop) (i j b0 b1 b2 : Nat) (w : World) (hi : i < 3) (hj : j ≤ l.length) (hl : l.length ≤ 1000000) (hA : Els w S l A)
    (h0 : Blk' w b0 22 #[.slice A l.length c]) (h1 : Blk' w b1 23 #[.int .i64 k.k0, .int .i64 k.k1, .int .i64 k.k2]) (h2 : Blk' w b2 3 #[.int .i64 j]) :
    Calls Try.prog 31 #[.int .i64 i, .pointer (some ⟨b2, 0, none⟩), .pointer (some ⟨b0, 0, none⟩), .pointer (some ⟨b1, 0, none⟩)] w fun e w' => e = .returned (.bool (isB k l i j)) ∧ Below w.heap.size w w' := by
  obtain ⟨n, hn⟩ : ∃ n, n = kK k i := ⟨_, rfl⟩
  have HIs : Hid (isB k l i j = match l[j]? with | some t => decide (t.kind = n) | none => false) := Lib.hid (by rw [hn]; rfl)
  have hkc : w.cell? ⟨b1, i, none⟩ = some (.int .i64 n) := by
    rw [hn, h1.cell i]
    match i, hi with
    | 0, _ => rfl
    | 1, _ => rfl
    | 2, _ => rfl
  have c0 : w.cell? ⟨b0, 0, none⟩ = some (.slice A l.length c) := h0.cell 0
  have c2 : w.cell? ⟨b2, 0, none⟩ = some (.int .i64 j) := h2.cell 0
  have z0 : b0 < w.heap.size := h0.lt
  have z1 : b1 < w.heap.size := h1.lt
  have z2 : b2 < w.heap.size := h2.lt
  have hi0 : (0 : Int) ≤ (i : Int) := by omega
  have hi3 : (i : Int) < 3 := by omega
  have hj0 : (0 : Int) ≤ (j : Int) := by omega
  clear h0 h1 h2 hn
  by_cases hlt : j < l.length
  · obtain ⟨t, ht⟩ := get_some hlt
    obtain ⟨b, o, rfl, hSb, hbs, ti0, ti1, ti2, d0, d1, d2, d2'⟩ := hA.tok ht
    obtain ⟨tk, tf, tt⟩ := t
    dsimp only at ti0 ti1 ti2 d0 d1 d2 d2'
    have HIt : Hid (isB k l i j = decide (tk = n)) := Lib.hid (by rw [HIs.out, ht])
    have hd : decide ((j : Int) < (l.length : Int)) = true := by simp; omega
    have hd1 : (j : Int) < (l.length : Int) := by omega
    clear ht ti0 ti1 ti2 d1 d2 d2' HIs hA
    go_enter Try.func31, Try.ntmps31
    by_cases hq : tk = n
    · subst hq
      go_wp2_with fail
      go_quiet (fail)
      go_wp2
      go_ret
      exact ⟨ret_bool (by rw [HIt.out]; simp), bdrewN (Below.refl _ _)⟩
    · have hq2 : (tk == n) = false := by simp [hq]
      go_wp2_with fail
      go_quiet (fail)
      go_wp2
      go_ret
      exact ⟨ret_bool (by rw [HIt.out]; simp [hq]), bdrewN (Below.refl _ _)⟩
  · have hd : decide ((j : Int) < (l.length : Int)) = false := by simp; omega
    have HIt : Hid (isB k l i j = false) := Lib.hid (by rw [HIs.out, List.getElem?_eq_none (by omega)])
    have hd1 : ¬ (j : Int) < (l.length : Int) := by omega
    clear HIs hA
    go_enter Try.func31, Try.ntmps31
    go_wp2_with fail
    go_quiet (fail)
    go_wp2
    go_ret
    exact ⟨ret_bool (by rw [HIt.out]), bdrewN (Below.refl _ _)⟩
end Go.Proofs.Ytabehgggahnopaa
