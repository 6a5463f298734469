/- Rows of bools that are known whole; contract: first.union. -/
import Derived.Test.YtecofoilghdedaaQp1
import Derived.Deep.QuietTactic
import Derived.BigQuiet
namespace Go.Proofs.Ytecofoilghdedaa
open Go.RowKit
set_option linter.unusedVariables false

def UnionI (to fr : List Bool) (b : Nat) (w : World) (ch i : Value) (wr : World) : Prop :=
  ∃ k : Nat, k ≤ fr.length ∧ i = .int .i64 k ∧ ch = .bool (decide (orRow to (fr.take k) ≠ to)) ∧ w.grownBy wr (some b) ∧ Blk' wr b 4 (bcells (orRow to (fr.take k)))

set_option maxRecDepth 100000 in
set_option maxHeartbeats 1000000 in
theorem union_any (to fr : List Bool) (b c : Nat) (A : Option Addr) (c2 n n2 : Nat) (S : Nat → Prop) (w : World) (hn : n = to.length) (hn2 : n2 = fr.length) (hl : fr.length ≤ to.length) (hm : fr.length ≤ 1000000) (hb : Blk' w b 4 (bcells to)) (hA : Els w S fr A) (hS : ¬ S b) :
    Calls Try.prog 75 #[.slice (some ⟨b, 0, none⟩) n c, .slice A n2 c2] w fun e w' => e = .returned (.bool (decide (orRow to fr ≠ to))) ∧ w.grownBy w' (some b) ∧ Blk' w' b 4 (bcells (orRow to fr)) := by
  subst hn; subst hn2
  have HB := Lib.hid hb
  have HL := Lib.hid hl
  have HM := Lib.hid hm
  have hfm : fr.length ≤ 9223372036854775807 := by omega
  clear hb hl hm
  go_enter Try.func75, Try.ntmps75
  go_wp2_with fail
  go_loopw [5, 10] (fun ch i wr => UnionI to fr b w ch i wr) (fun _ i _ => fr.length - (intOf i).toNat)
  case atStart => exact ⟨0, Nat.zero_le _, rfl, by simp [orRow_nil], ⟨rfl, rfl, rfl, Nat.le_refl _, fun _ _ _ => rfl⟩, by rw [List.take_zero, orRow_nil]; exact HB.out⟩
  case round =>
    obtain ⟨wo, hwo⟩ : ∃ wo : World, wo = wr := ⟨_, rfl⟩
    subst hwo
    obtain ⟨k, hk, rfl, rfl, hg, hbk⟩ := hrel
    have HG := Lib.hid hg
    have HK := Lib.hid hbk
    have hf := hbk.frozen k
    have hbl := hbk.lt
    clear hg hbk
    by_cases hlt : k < fr.length
    · have hk0 : (0 : Int) ≤ (k : Int) := by omega
      have hkt : k < to.length := by have := HL.out; omega
      have hk1 : (k : Int) < (to.length : Int) := by omega
      obtain ⟨y, hy⟩ := get_some hlt
      obtain ⟨x, hx⟩ := get_some hkt
      obtain ⟨b1, o1, rfl, hSb, hbs, hc0⟩ := (hA.keep (w' := wo) (S' := S) (fun p hp hp' => World.cell?_of_block (HG.out.block p.block hp' (fun e => by injection e with e; exact hS (e ▸ hp)))) (fun _ h => h)).bool hy
      have hct : wo.cell? ⟨b, k, none⟩ = some (.bool x) := (HK.out.cell k).trans (bcells_get (orRow_get _ _ _ _ _ hx (Nat.le_refl _)))
      have E1 := Lib.hid (orRow_take to fr k x y hx hy)
      have E2 := Lib.hid (orRow_get to fr k k x hx (Nat.le_refl _))
      have E3 := Lib.hid hx
      clear hx hy
      cases y
      · have E4 := Lib.hid (show orRow to (fr.take (k + 1)) = orRow to (fr.take k) by rw [E1.out]; simp [set_same E2.out])
        go_wp2
        go_roundw
        case rel => exact ⟨k + 1, hlt, by go_num, by rw [E4.out], HG.out, by rw [E4.out]; exact HK.out⟩
        case measure => simp [intOf]; omega
      · cases x
        · have E5 : Hid (decide (orRow to (fr.take (k + 1)) ≠ to) = true) := Lib.hid (by
            rw [E1.out]
            simp only [Bool.false_or, ne_eq, decide_eq_true_eq]
            intro h
            have h2 := congrArg (fun l => l[k]?) h
            rw [E3.out] at h2
            simp only [List.getElem?_set] at h2
            have := E2.out
            have h3 := (List.getElem?_eq_some_iff.1 this).1
            simp [h3] at h2)
          have HZ := Lib.hid (show Blk' (wo.setCell ⟨b, k, none⟩ (.bool true)) b 4 (bcells (orRow to (fr.take (k + 1)))) by have h := HK.out.set_ k (.bool true); rw [bcells_set] at h; rw [E1.out]; exact h)
          go_wp2
          go_roundw
          case rel => exact ⟨k + 1, hlt, by go_num, by rw [E5.out], only_setCell HG.out (.inl rfl) _, HZ.out⟩
          case measure => simp [intOf]; omega
        · have E4 := Lib.hid (show orRow to (fr.take (k + 1)) = orRow to (fr.take k) by rw [E1.out]; simp [set_same E2.out])
          go_wp2
          go_roundw
          case rel => exact ⟨k + 1, hlt, by go_num, by rw [E4.out], HG.out, by rw [E4.out]; exact HK.out⟩
          case measure => simp [intOf]; omega
    · have E := Lib.hid (show fr.take k = fr from List.take_of_length_le (by omega))
      go_wp2
      go_ret
      exact ⟨ret_bool (by rw [E.out]), HG.out, by have h := HK.out; rw [E.out] at h; exact h⟩

theorem orRow_self : ∀ (a : List Bool), orRow a a = a
  | [] => rfl
  | x :: a => by simp [orRow, orRow_self a]
/-- A row onto itself: nothing turns. -/
theorem union_self (to : List Bool) (b c n : Nat) (w : World) (hn : n = to.length) (hm : to.length ≤ 1000000) (hb : Blk' w b 4 (bcells to)) :
    Calls Try.prog 75 #[.slice (some ⟨b, 0, none⟩) n c, .slice (some ⟨b, 0, none⟩) n c] w fun e w' => e = .returned (.bool false) ∧ w = w' := by
  subst hn
  have HB := Lib.hid hb
  have hfm : to.length ≤ 9223372036854775807 := by omega
  clear hb
  go_enter Try.func75, Try.ntmps75
  go_wp2_with fail
  go_loop [5, 10] (fun ch i => ∃ k : Nat, k ≤ to.length ∧ i = .int .i64 k ∧ ch = .bool false) (fun _ i => to.length - (intOf i).toNat)
  case atStart => exact ⟨0, Nat.zero_le _, rfl, rfl⟩
  case round =>
    obtain ⟨k, hk, rfl, rfl⟩ := hrel
    by_cases hlt : k < to.length
    · have hk0 : (0 : Int) ≤ (k : Int) := by omega
      have hk1 : (k : Int) < (to.length : Int) := by omega
      obtain ⟨y, hy⟩ := get_some hlt
      have hc0 : w.cell? ⟨b, k, none⟩ = some (.bool y) := (HB.out.cell k).trans (bcells_get hy)
      clear hy
      cases y
      all_goals
        go_wp2
        go_round
        case rel => exact ⟨k + 1, hlt, by go_num, rfl⟩
        case measure => simp [intOf]; omega
    · go_wp2
      go_ret
      exact ⟨rfl, rfl⟩
end Go.Proofs.Ytecofoilghdedaa
