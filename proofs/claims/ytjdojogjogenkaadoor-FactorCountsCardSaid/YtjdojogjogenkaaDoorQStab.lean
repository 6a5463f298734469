/- Contract: slices.SortStableFunc at packs with core.Build$1: a permutation. -/
import Derived.Test.YtjdojogjogenkaaDoorQStabSym
namespace Go.Proofs.YtjdojogjogenkaaDoor
open Go.RowKit
set_option linter.unusedVariables false
set_option maxRecDepth 100000 in
set_option maxHeartbeats 1000000 in
theorem stableF_any (w : World) (ps : List PkV) (g cap : Nat) (hN : ps.length < 1000000000) (hR : RowF w g ps) (hC : CmpOk w g ps) :
  Calls Tryd.prog 156 #[.slice (some ⟨g, 0, none⟩) ps.length cap, .int .i64 ps.length, .func (.func 132) #[] #[]] w (RetPm w g ps) := by
 have HR := Lib.hid hR
 have HCm := Lib.hid hC
 clear hR hC
 obtain ⟨n, hn⟩ : ∃ n : Nat, n = ps.length := ⟨_, rfl⟩
 have HN := Lib.hid hn
 rw [← hn] at hN
 rw [← hn]
 clear hn
 go_enter Tryd.func156, Tryd.ntmps156
 go_wp2_with fail
 go_loopw [7, 8] (fun u v wr => ∃ (a : Nat) (qs : List PkV), a ≤ n ∧ u = .int .i64 a ∧ v = .int .i64 ((a + 20 : Nat) : Int) ∧ RowF wr g qs ∧ qs.Perm ps ∧ Kept (fun b => b = g) w wr) (fun u _ _ => n - (intOf u).toNat)
 case atStart => exact ⟨0, ps, Nat.zero_le _, rfl, rfl, HR.out, List.Perm.refl _, Kept.refl _ _⟩
 case round =>
  obtain ⟨wo, hwo⟩ : ∃ wo : World, wo = wr := ⟨_, rfl⟩
  subst hwo
  obtain ⟨a, qs, han, rfl, rfl, hRo, hPo, hKo⟩ := hrel
  have hql := hPo.length_eq
  rw [← HN.out] at hql
  have HO := Lib.hid (And.intro hRo (And.intro hPo hKo))
  have HL := Lib.hid hql
  clear hRo hPo hKo hql
  obtain ⟨b, hb⟩ : ∃ b : Nat, b = a + 20 := ⟨_, rfl⟩
  rw [← hb]
  by_cases hlt : b ≤ n
  ·have hlt' : (b : Int) ≤ (n : Int) := by omega
   obtain ⟨b2, hb2⟩ : ∃ b2 : Nat, b2 = b + 20 := ⟨_, rfl⟩
   have hwb : IntKind.i64.wrap ((b : Int) + 20) = (b2 : Int) := by rw [show (b : Int) + 20 = (b2 : Int) by omega]; exact IntWalk.i64_in _ (by omega)
   have HB2 := Lib.hid hb2
   have hab : a < b := by omega
   have HC := Lib.hid (insF_any wo qs g cap a b (by rw [HL.out]; omega) HO.out.1 (HCm.out.perm HO.out.2.1 HO.out.2.2) (by omega) (by rw [HL.out]; omega))
   rw [HL.out] at HC
   clear hb hb2
   go_wp2_with fail
   refine HC.out.mono ?_
   rintro e w1 ⟨rfl, rs, h1, h2, h3⟩
   have HE := Lib.hid (And.intro h1 (And.intro (h2.trans HO.out.2.1) (HO.out.2.2.trans h3)))
   clear h1 h2 h3
   go_wp2_with fail
   go_roundw
   case rel => exact ⟨b, rs, hlt, rfl, by rw [HB2.out], HE.out⟩
   case measure => simp [intOf]; omega
  ·have hlt' : ¬ (b : Int) ≤ (n : Int) := by omega
   have HC := Lib.hid (insF_any wo qs g cap a n (by rw [HL.out]; omega) HO.out.1 (HCm.out.perm HO.out.2.1 HO.out.2.2) han (by rw [HL.out]; exact Nat.le_refl _))
   rw [HL.out] at HC
   clear hb
   go_wp2_with fail
   refine HC.out.mono ?_
   rintro e w1 ⟨rfl, rs, h1, h2, h3⟩
   have HE := Lib.hid (And.intro h1 (And.intro (h2.trans HO.out.2.1) (HO.out.2.2.trans h3)))
   clear h1 h2 h3 HO HC HL
   go_wp2_with fail
   go_loopw [6, 7, 8, 9] (fun s u v x wr => ∃ (z : Nat) (qs : List PkV), 20 ≤ z ∧ z ≤ 2000000000 ∧ s = .int .i64 z ∧ RowF wr g qs ∧ qs.Perm ps ∧ Kept (fun b => b = g) w wr) (fun s _ _ _ _ => n - (intOf s).toNat)
   case atStart => exact ⟨20, rs, Nat.le_refl _, by omega, rfl, HE.out⟩
   case round =>
    clear HE
    obtain ⟨wo, hwo⟩ : ∃ wo : World, wo = wr := ⟨_, rfl⟩
    subst hwo
    obtain ⟨z, qs, hz0, hz1, rfl, hRo, hPo, hKo⟩ := hrel
    have HO := Lib.hid (And.intro hRo (And.intro hPo hKo))
    clear hRo hPo hKo
    by_cases hz : z < n
    ·have hz' : (z : Int) < (n : Int) := by omega
     obtain ⟨y, hy⟩ : ∃ y : Nat, y = 2 * z := ⟨_, rfl⟩
     have hwy : IntKind.i64.wrap (2 * (z : Int)) = (y : Int) := by rw [show 2 * (z : Int) = (y : Int) by omega]; exact IntWalk.i64_in _ (by omega)
     have hwy2 : IntKind.i64.wrap ((z : Int) * 2) = (y : Int) := by rw [show (z : Int) * 2 = (y : Int) by omega]; exact IntWalk.i64_in _ (by omega)
     have hyz : z < y ∧ y ≤ 2 * n := by omega
     have HY := Lib.hid hy
     clear hy
     go_wp2_with fail
     go_loopw [7, 8] (fun u v wr => ∃ (a : Nat) (qs : List PkV), a ≤ n ∧ u = .int .i64 a ∧ v = .int .i64 ((a + y : Nat) : Int) ∧ RowF wr g qs ∧ qs.Perm ps ∧ Kept (fun b => b = g) w wr) (fun u _ _ => n - (intOf u).toNat)
     case atStart => exact ⟨0, qs, Nat.zero_le _, rfl, by simp, HO.out⟩
     case round =>
      clear HO
      obtain ⟨wp, hwp⟩ : ∃ wp : World, wp = wr := ⟨_, rfl⟩
      subst hwp
      obtain ⟨a, qs, han, rfl, rfl, hRo, hPo, hKo⟩ := hrel
      have hql := hPo.length_eq
      rw [← HN.out] at hql
      have HO := Lib.hid (And.intro hRo (And.intro hPo hKo))
      have HL := Lib.hid hql
      clear hRo hPo hKo hql
      obtain ⟨b, hb⟩ : ∃ b : Nat, b = a + y := ⟨_, rfl⟩
      rw [← hb]
      obtain ⟨m, hm⟩ : ∃ m : Nat, m = a + z := ⟨_, rfl⟩
      have hwm : IntKind.i64.wrap ((a : Int) + (z : Int)) = (m : Int) := by rw [show (a : Int) + (z : Int) = (m : Int) by omega]; exact IntWalk.i64_in _ (by omega)
      by_cases hlt : b ≤ n
      ·have hlt' : (b : Int) ≤ (n : Int) := by omega
       obtain ⟨b2, hb2⟩ : ∃ b2 : Nat, b2 = b + y := ⟨_, rfl⟩
       have hwb : IntKind.i64.wrap ((b : Int) + (y : Int)) = (b2 : Int) := by rw [show (b : Int) + (y : Int) = (b2 : Int) by omega]; exact IntWalk.i64_in _ (by omega)
       have HB2 := Lib.hid hb2
       have hab : a < m ∧ m < b ∧ a < b := by have := HY.out; omega
       have HC := Lib.hid (symF_any wp qs g cap a m b (by rw [HL.out]; omega) HO.out.1 (HCm.out.perm HO.out.2.1 HO.out.2.2) hab.1 hab.2.1 (by rw [HL.out]; omega))
       rw [HL.out] at HC
       clear hb hb2 hm
       go_wp2_with fail
       refine HC.out.mono ?_
       rintro e w1 ⟨rfl, rs, h1, h2, h3⟩
       have HE := Lib.hid (And.intro h1 (And.intro (h2.trans HO.out.2.1) (HO.out.2.2.trans h3)))
       clear h1 h2 h3
       go_wp2_with fail
       go_roundw
       case rel => exact ⟨b, rs, hlt, rfl, by rw [HB2.out], HE.out⟩
       case measure => simp [intOf]; omega
      ·have hlt' : ¬ (b : Int) ≤ (n : Int) := by omega
       have ham : a < m := by omega
       by_cases hmn : m < n
       ·have hmn' : (m : Int) < (n : Int) := by omega
        have HC := Lib.hid (symF_any wp qs g cap a m n (by rw [HL.out]; omega) HO.out.1 (HCm.out.perm HO.out.2.1 HO.out.2.2) ham hmn (by rw [HL.out]; exact Nat.le_refl _))
        rw [HL.out] at HC
        clear hb hm
        go_wp2_with fail
        refine HC.out.mono ?_
        rintro e w1 ⟨rfl, rs, h1, h2, h3⟩
        have HE := Lib.hid (And.intro h1 (And.intro (h2.trans HO.out.2.1) (HO.out.2.2.trans h3)))
        clear h1 h2 h3
        go_wp2_with fail
        go_roundw
        case rel => exact ⟨y, rs, by omega, by omega, rfl, HE.out⟩
        case measure => simp [intOf]; omega
       ·have hmn' : ¬ (m : Int) < (n : Int) := by omega
        clear hb hm
        go_wp2_with fail
        go_roundw
        case rel => exact ⟨y, qs, by omega, by omega, rfl, HO.out⟩
        case measure => simp [intOf]; omega
    ·have hz' : ¬ (z : Int) < (n : Int) := by omega
     go_wp2_with fail
     go_end0
     exact ⟨rfl, qs, HO.out⟩
set_option maxRecDepth 100000 in
theorem sortStable_any (w : World) (ps : List PkV) (g cap : Nat) (hN : ps.length < 1000000000) (hR : RowF w g ps) (hC : CmpOk w g ps) :
  Calls Tryd.prog 131 #[.slice (some ⟨g, 0, none⟩) ps.length cap, .func (.func 132) #[] #[]] w (RetPm w g ps) := by
 have HC := Lib.hid (stableF_any w ps g cap hN hR hC)
 clear hR hC
 go_enter Tryd.func131, Tryd.ntmps131
 go_wp2_with fail
 refine HC.out.mono ?_
 rintro e w1 ⟨rfl, rs, h1⟩
 have HE := Lib.hid h1
 clear h1
 go_wp2_with fail
 go_end0
 exact ⟨rfl, rs, HE.out⟩
set_option maxRecDepth 100000 in
theorem sortStable_nil (w : World) (A : Option Addr) (cap : Nat) :
  Calls Tryd.prog 131 #[.slice A 0 cap, .func (.func 132) #[] #[]] w fun e w' => e = .returned (.tuple #[]) ∧ w = w' := by
 have h1 : ∀ W : World, Calls Tryd.prog 180 #[.slice A 0 cap, .int .i64 0, .int .i64 0, .func (.func 132) #[] #[]] W fun e w' => e = .returned (.tuple #[]) ∧ W = w' := by
  intro W
  go_enter Tryd.func180, Tryd.ntmps180
  go_wp2_with fail
  go_loopw [8] (fun v wr => v = .int .i64 1 ∧ W = wr) (fun _ _ => 0)
  case atStart => exact ⟨rfl, rfl⟩
  case round =>
   obtain ⟨rfl, rfl⟩ := hrel
   go_wp2_with fail
   go_end0
   exact ⟨rfl, rfl⟩
 have H1 := Lib.hid h1
 clear h1
 have h2 : ∀ W : World, Calls Tryd.prog 156 #[.slice A 0 cap, .int .i64 0, .func (.func 132) #[] #[]] W fun e w' => e = .returned (.tuple #[]) ∧ W = w' := by
  intro W
  go_enter Tryd.func156, Tryd.ntmps156
  go_wp2_with fail
  go_loopw [7, 8] (fun u v wr => u = .int .i64 0 ∧ v = .int .i64 20 ∧ W = wr) (fun _ _ _ => 0)
  case atStart => exact ⟨rfl, rfl, rfl⟩
  case round =>
   obtain ⟨rfl, rfl, rfl⟩ := hrel
   go_wp2_with fail
   refine (H1.out _).mono ?_
   rintro e w1 ⟨rfl, rfl⟩
   go_wp2_with fail
   go_loopw [6] (fun u wr => u = .int .i64 20 ∧ W = wr) (fun _ _ => 0)
   case atStart => exact ⟨rfl, rfl⟩
   case round =>
    obtain ⟨rfl, rfl⟩ := hrel
    go_wp2_with fail
    go_end0
    exact ⟨rfl, rfl⟩
 have H2 := Lib.hid h2
 clear h2
 go_enter Tryd.func131, Tryd.ntmps131
 go_wp2_with fail
 refine (H2.out _).mono ?_
 rintro e w1 ⟨rfl, rfl⟩
 go_wp2_with fail
 go_end0
 exact ⟨rfl, rfl⟩
end Go.Proofs.YtjdojogjogenkaaDoor
