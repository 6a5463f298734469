/- Contract: slices.Clone at ints: a row of the call's own, with cells behind it. -/
import Derived.Test.YtagcnhiinmiklaaDoorQIntRow
import Derived.Lib.SliceRun
namespace Go.Proofs.YtagcnhiinmiklaaDoor
open Go.RowKit
set_option linter.unusedVariables false

/-- A row of ints that the call owns is a block: its ints, and cells behind them. -/
theorem ownsRow_blk {w : World} {base n : Nat} {e : TypeId} {v : Value} {l : List Int} (h : w.ownsRow base e 1 v n (ivals l)) (hne : l ≠ []) :
    ∃ b k z, v = .slice (some ⟨b, 0, none⟩) n k ∧ Blk' w b e (icells l ++ z) ∧ n ≤ k ∧ k ≤ 9223372036854775807 ∧ base ≤ b := by
  obtain ⟨hl, h⟩ := h
  have hln : l.length = n := by simpa [ivals] using hl
  have hpos : 0 < l.length := by cases l with | nil => exact absurd rfl hne | cons a l => simp
  rcases h with ⟨_, h0⟩ | ⟨g, cap, cur, rfl, hg, hh, hnc, hcm, hsz, hx⟩
  · omega
  · refine ⟨g, cap, (cur.toList.drop n).toArray, rfl, ?_, hnc, by simpa [maxLen] using hcm, hg⟩
    have e1 : icells l ++ (cur.toList.drop n).toArray = cur := by
      apply Array.ext'
      rw [icells_vals]
      simp only [Array.toList_append]
      have h2 : ivals l = cur.toList.take n := by rw [← hx]; simp
      rw [h2]
      simp
    unfold Blk'
    rw [e1]
    exact hh

set_option maxRecDepth 100000 in
set_option maxHeartbeats 2000000 in
theorem cloneInt_any (l : List Int) (A : Option Addr) (c n : Nat) (S : Nat → Prop) (w : World) (hl : n = l.length) (h0 : l ≠ []) (hm : l.length ≤ 1000000) (hA : Els w S l A) :
    Calls Tryd.prog 67 #[.slice A n c] w fun e w' => ∃ b k z, e = .returned (.slice (some ⟨b, 0, none⟩) n k) ∧ Blk' w' b 3 (icells l ++ z) ∧ n ≤ k ∧ k ≤ 9223372036854775807 ∧ w.heap.size ≤ b ∧ Below w.heap.size w w' := by
  subst hl
  obtain ⟨i0, hi, hz0, hz1, hz2⟩ := info_parts infoInt
  obtain ⟨b, o, rfl, hSb, hx⟩ := hA h0
  have HX : Hid (∀ (j : Nat) (x : Int), l[j]? = some x → w.cell? ⟨b, o + j, none⟩ = some (.int .i64 x)) := Lib.hid (fun j x hj => by
    obtain ⟨cs, ⟨rfl, _⟩, hat⟩ := hx j x hj
    have h1 := hat 0 _ rfl
    have e : Dat.size Int = 1 := rfl
    rw [e] at h1
    simpa using h1)
  have q22 : ∀ (w : World) (a : Option Addr) (n c n' c' : Nat), (binOp .eql 25 (.slice a n c) (.slice none n' c')).run Tryd.prog w = .ok (.bool a.isNone) w := fun w a n c n' c' => Lib.run_eql_slice_nil w _ _ a n c n' c' Tryd.underlying25
  clear hx hA
  go_enter Tryd.func67, Tryd.ntmps67
  go_wp2_with (at_builtin; refine wpList_append_own _ rfl _ _ 25 rfl w.heap.size 3 i0 (.int .i64 0) 1 8 Tryd.underlying25 hi hz0 hz1 hz2 rfl (by decide) _ _ _ rfl (World.ownsRow_made w #[] 0 (Nat.le_refl _) (Nat.zero_le _) rfl) ⟨b, o, none⟩ l.length c (ivals l) rfl ?qc1 ?qc2 ?qc3 ?qc4 ?qc5 ?qc6 ?_)
  case qc1 => simp [ivals]
  case qc2 =>
    intro j u hj
    have hadd : (⟨b, o, none⟩ : Addr).add j = ⟨b, o + j, none⟩ := by unfold Addr.add; split <;> simp_all
    rw [hadd]
    simp only [ivals, List.getElem?_map, Option.map_eq_some_iff] at hj
    obtain ⟨x, hj, rfl⟩ := hj
    exact ((Below.refl w.heap.size w).alloc (Nat.le_refl _) _).cell (p := ⟨b, o + j, none⟩) (World.block_lt_of_cell? w _ (HX.out j x hj)) |>.trans (HX.out j x hj)
  case qc3 => intro u hu; obtain ⟨x, _, rfl⟩ := List.mem_map.1 hu; rfl
  case qc4 => unfold maxLen; omega
  case qc5 => omega
  case qc6 => simp
  intro v' w1 hown hgrow hnil
  obtain ⟨b', k, z, rfl, hB, hk1, hk2, hge⟩ := ownsRow_blk (by simpa using hown) h0
  have HB := Lib.hid hB
  have HG : Hid (Below w.heap.size w w1) := Lib.hid (((Below.refl _ w).alloc (Nat.le_refl _) _).grown hgrow (by simp) (by intro k hk; simp [Value.ownBlock] at hk; omega))
  clear hB hown hgrow hnil
  go_wp2
  go_ret
  exact ⟨b', k, z, rfl, HB.out, hk1, hk2, hge, HG.out⟩
end Go.Proofs.YtagcnhiinmiklaaDoor
