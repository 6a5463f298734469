/- Contracts: slices.pdqsortCmpFunc of few numbers, math/bits.Len, slices.SortFunc at gram.Sorted's closure. -/
import Derived.Test.YtaidadjekfcacaaDoorQSortI
namespace Go.Proofs.YtaidadjekfcacaaDoor
open Go.RowKit
set_option linter.unusedVariables false

def RetSort (rs : List Rule) (xs : List Int) (g : Nat) (w : World) (e : Ending) (w' : World) : Prop :=
  e = .returned (.tuple #[]) ∧ ∃ ys : List Int, RowI w' g ys ∧ ys.Perm xs ∧ SortedTo (ltAt rs) ys (xs.length - 1) ∧ Kept (fun b => b = g) w w'

set_option maxRecDepth 100000 in
set_option maxHeartbeats 1000000 in
theorem pdq_any (t n s : Int) (rs : List Rule) (A : Option Addr) (c G : Nat) (Sr : Nat → Prop) (w : World) (xs : List Int) (g cap : Nat) (lim : Int) (h1 : 1 ≤ xs.length) (h12 : xs.length ≤ 12) (hok : SrtOk rs xs) (hG : SrtG t n s rs A c G Sr w) (hR : RowI w g xs) (hgG : G ≠ g) (hgS : ∀ b, Sr b → b ≠ g) :
    Calls Tryd.prog 146 #[.slice (some ⟨g, 0, none⟩) xs.length cap, .int .i64 0, .int .i64 xs.length, .int .i64 lim, .func (.func 107) #[] #[.pointer (some ⟨G, 0, none⟩)]] w (RetSort rs xs g w) := by
  have HI := Lib.hid (insSort_any t n s rs A c G Sr w xs g cap h1 h12 hok hG hR hgG hgS)
  have hN : (xs.length : Int) ≤ 12 := by omega
  have hw1 : IntKind.i64.wrap (xs.length : Int) = (xs.length : Int) := IntWalk.i64_in _ (by omega)
  have hw0 : IntKind.i64.wrap ((xs.length : Int) - 0) = (xs.length : Int) := by rw [Int.sub_zero]; exact hw1
  clear hok hG hR hgS
  go_enter Tryd.func146, Tryd.ntmps146
  go_wp2_with fail
  go_loopw [1, 2] (fun a b wr => a = .int .i64 0 ∧ b = .int .i64 xs.length ∧ wr = w) (fun _ _ _ => 0)
  case atStart => exact ⟨rfl, rfl, rfl⟩
  case round =>
    obtain ⟨wo, hwo⟩ : ∃ wo : World, wo = wr := ⟨_, rfl⟩
    subst hwo
    obtain ⟨rfl, rfl, rfl⟩ := hrel
    go_wp2_with fail
    refine HI.out.mono ?_
    rintro e w1 ⟨rfl, hret⟩
    have HR := Lib.hid hret
    clear hret
    go_wp2_with fail
    go_end0
    exact ⟨rfl, HR.out⟩

set_option maxRecDepth 100000 in
set_option maxHeartbeats 1000000 in
theorem bitsLen_any (n : Nat) (hn : n ≤ 12) (w : World) : Calls Tryd.prog 147 #[.int .u64 (n : Int)] w fun e w' => (∃ k : Int, e = .returned (.int .i64 k)) ∧ w = w' := by
  have h : n = 0 ∨ n = 1 ∨ n = 2 ∨ n = 3 ∨ n = 4 ∨ n = 5 ∨ n = 6 ∨ n = 7 ∨ n = 8 ∨ n = 9 ∨ n = 10 ∨ n = 11 ∨ n = 12 := by omega
  clear hn
  rcases h with rfl | rfl | rfl | rfl | rfl | rfl | rfl | rfl | rfl | rfl | rfl | rfl | rfl
  all_goals
    go_enter Tryd.func147, Tryd.ntmps147
    go_wp2
    go_ret
    exact ⟨⟨_, rfl⟩, rfl⟩

set_option maxRecDepth 100000 in
set_option maxHeartbeats 1000000 in
theorem sortFunc_any (t n s : Int) (rs : List Rule) (A : Option Addr) (c G : Nat) (Sr : Nat → Prop) (w : World) (xs : List Int) (g cap : Nat) (h1 : 1 ≤ xs.length) (h12 : xs.length ≤ 12) (hok : SrtOk rs xs) (hG : SrtG t n s rs A c G Sr w) (hR : RowI w g xs) (hgG : G ≠ g) (hgS : ∀ b, Sr b → b ≠ g) :
    Calls Tryd.prog 106 #[.slice (some ⟨g, 0, none⟩) xs.length cap, .func (.func 107) #[] #[.pointer (some ⟨G, 0, none⟩)]] w (RetSort rs xs g w) := by
  have HI := fun lim => Lib.hid (pdq_any t n s rs A c G Sr w xs g cap lim h1 h12 hok hG hR hgG hgS)
  have hu : IntKind.u64.wrap (xs.length : Int) = (xs.length : Int) := by unfold IntKind.wrap; simp [IntKind.signed, IntKind.bits]; omega
  clear hok hG hR hgS
  go_enter Tryd.func106, Tryd.ntmps106
  go_wp2_with fail
  refine (bitsLen_any xs.length h12 w).mono ?_
  rintro e w1 ⟨⟨k, rfl⟩, rfl⟩
  go_wp2_with fail
  refine (HI k).out.mono ?_
  rintro e w2 ⟨rfl, hret⟩
  have HR := Lib.hid hret
  clear hret HI
  go_wp2_with fail
  go_end0
  exact ⟨rfl, HR.out⟩
end Go.Proofs.YtaidadjekfcacaaDoor
