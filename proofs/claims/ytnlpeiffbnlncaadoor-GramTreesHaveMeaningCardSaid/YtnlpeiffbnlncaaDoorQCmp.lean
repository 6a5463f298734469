/- Contracts: cmp.Compare at int, cmp.Or at int. -/
import Derived.Test.YtnlpeiffbnlncaaDoorQp1
import Derived.Test.YtnlpeiffbnlncaaDoorChecked
namespace Go.Proofs.YtnlpeiffbnlncaaDoor
open Go.RowKit

def cmpI (a b : Int) : Int := if a < b then -1 else if b < a then 1 else 0
theorem cmpI_range (a b : Int) : I64 (cmpI a b) := by unfold cmpI I64; split <;> (try split) <;> omega
def orI : List Int → Int
  | [] => 0
  | x :: xs => if x = 0 then orI xs else x

theorem isNaN_any (x : Int) (w : World) : Calls Tryd.prog 126 #[.int .i64 x] w fun e w' => e = .returned (.bool false) ∧ w = w' := by
  go_enter Tryd.func126, Tryd.ntmps126
  go_wp2
  go_ret
  exact ⟨by simp, rfl⟩

theorem cmpInt_any (x y : Int) (w : World) : Calls Tryd.prog 105 #[.int .i64 x, .int .i64 y] w fun e w' => e = .returned (.int .i64 (cmpI x y)) ∧ w = w' := by
  go_enter Tryd.func105, Tryd.ntmps105
  go_wp2_with (go_at_call 126; refine (isNaN_any _ _).mono ?_; rintro e w' ⟨rfl, rfl⟩)
  all_goals
    go_ret
    refine ⟨?_, rfl⟩
    simp [cmpI]
    omega

set_option maxRecDepth 100000 in
theorem or_any (A : Option Addr) (c : Nat) (xs : List Int) (S : Nat → Prop) (w : World) (hn : xs.length ≤ c) (hc : c ≤ 9223372036854775807) (hA : Els w S xs A) :
    Calls Tryd.prog 104 #[.slice A xs.length c] w fun e w' => e = .returned (.int .i64 (orI xs)) ∧ w = w' := by
  go_enter Tryd.func104, Tryd.ntmps104
  go_wp2
  go_loop [8] (fun i => ∃ k : Nat, k ≤ xs.length ∧ i = .int .i64 k ∧ orI xs = orI (xs.drop k)) (fun i => xs.length - (intOf i).toNat)
  case atStart => exact ⟨0, Nat.zero_le _, rfl, rfl⟩
  case round =>
    obtain ⟨k, hk, rfl, hr⟩ := hrel
    have Hr := Lib.hid hr
    clear hr
    by_cases hlt : k < xs.length
    · obtain ⟨x, hx⟩ := get_some hlt
      obtain ⟨b, o, rfl, _, hb, hi, hcell⟩ := hA.int hx
      have Hd := Lib.hid (drop_cons hx)
      clear hx hA
      by_cases h0 : x = 0
      · subst h0
        go_wp2
        go_round
        case rel => exact ⟨k + 1, by omega, by go_num, by rw [Hr.out, Hd.out]; simp [orI]⟩
        case measure => simp [intOf]; omega
      · have h1 : (x != 0) = true := by simpa using h0
        have Hh := Lib.hid h0
        clear h0
        go_wp2
        go_ret
        exact ⟨ret_int (by rw [Hr.out, Hd.out, orI, if_neg Hh.out]), rfl⟩
    · go_wp2
      go_ret
      exact ⟨ret_int (by rw [Hr.out, List.drop_of_length_le (by omega)]; rfl), rfl⟩
/-- cmp.Or of two and of three numbers that lie in a new block. -/
theorem or2_any (g c : Nat) (x y : Int) (w : World) (hx : I64 x) (hy : I64 y) (hc : 2 ≤ c) (hc' : c ≤ 9223372036854775807) (h0 : w.cell? ⟨g, 0, none⟩ = some (.int .i64 x)) (h1 : w.cell? ⟨g, 1, none⟩ = some (.int .i64 y)) :
    Calls Tryd.prog 104 #[.slice (some ⟨g, 0, none⟩) 2 c] w fun e w' => e = .returned (.int .i64 (orI [x, y])) ∧ w = w' :=
  or_any (some ⟨g, 0, none⟩) c [x, y] (fun _ => True) w hc hc' fun _ => ⟨g, 0, rfl, trivial, fun i z hi => by
    match i, hi with
    | 0, hi => simp at hi; subst hi; exact ⟨[.int .i64 x], ⟨rfl, hx⟩, fun j u hu => by match j, hu with | 0, hu => simp at hu; subst hu; exact h0⟩
    | 1, hi => simp at hi; subst hi; exact ⟨[.int .i64 y], ⟨rfl, hy⟩, fun j u hu => by match j, hu with | 0, hu => simp at hu; subst hu; exact h1⟩⟩
end Go.Proofs.YtnlpeiffbnlncaaDoor
