/- Contracts: gram.where, gram.Of. -/
import Derived.Test.YtnlpeiffbnlncaaDoorQWhereP
namespace Go.Proofs.YtnlpeiffbnlncaaDoor
open Go.RowKit
set_option linter.unusedVariables false


def WhereL (g : Gram) (p : Rule → Bool) (A : Option Addr) (c : Nat) (w : World) (v i : Value) (wr : World) : Prop :=
  ∃ (k : Nat) (out : List Int), k ≤ g.rules.length ∧ i = .int .i64 k ∧ out.length ≤ k ∧ whereFrom p 0 g.rules = out ++ whereFrom p k (g.rules.drop k) ∧ Below w.heap.size w wr ∧ Own wr (fun _ => False) w.heap.size 3 v out
set_option maxRecDepth 100000 in
set_option maxHeartbeats 1000000 in
theorem where_any (g : Gram) (n : Int) (A : Option Addr) (c : Nat) (S : Nat → Prop) (w : World) (F : Nat) (cap : Value) (p : Rule → Bool) (hlc : g.rules.length ≤ c) (hc : c ≤ 9223372036854775807) (hA : Els w S g.rules A) (hgo : IsGo F)
    (hcall : ∀ (x : Rule) (W : World), x ∈ g.rules → Below w.heap.size w W → ∀ (A' : Option Addr) (c' : Nat), x.right.length ≤ c' → c' ≤ 9223372036854775807 → Els W S x.right A' →
      Calls Tryd.prog F #[.agg #[.int .i64 x.left, .slice A' x.right.length c'], cap] W fun e W' => e = .returned (.bool (p x)) ∧ Below W.heap.size W W') :
    Calls Tryd.prog 76 #[.agg #[.int .i64 g.terms, .int .i64 g.nons, .int .i64 g.start, .slice A g.rules.length c], .int .i64 n, .func (.func F) #[] #[cap]] w (RetInts w (whereL g n p) (whereE g n)) := by
  have HC := Lib.hid hcall
  have hgo' : ∀ (args : Array Value) (W : World), (callFunc F args).run Tryd.prog W = .ok (.enter F args) W := hgo
  clear hcall hgo
  obtain ⟨t, nn, s0, rs⟩ := g
  dsimp only at *
  have hba : Below w.heap.size w (w.alloc (.cells #[.int .i64 t, .int .i64 nn, .int .i64 s0, .slice A rs.length c] 25)) := (Below.refl _ _).alloc (Nat.le_refl _) _
  have Hba := Lib.hid hba
  have HA1 := Lib.hid (hA.below hba)
  clear hba
  go_enter Tryd.func76, Tryd.ntmps76
  go_wp2_with fail
  refine (check_any ⟨t, nn, s0, rs⟩ A c S _ hlc hc HA1.out).mono ?_
  rintro e w1 ⟨rfl, hb1⟩
  have Hb1 := Lib.hid (bthen Hba.out hb1 (by simp))
  have hG1 := (Blk'.new w 25 #[.int .i64 t, .int .i64 nn, .int .i64 s0, .slice A rs.length c]).below hb1 (by simp)
  have g11 : w1.cell? ⟨w.heap.size, 1, none⟩ = some (.int .i64 nn) := hG1.cell 1
  have g13 : w1.cell? ⟨w.heap.size, 3, none⟩ = some (.slice A rs.length c) := hG1.cell 3
  clear hb1 hG1 Hba HA1
  by_cases h0 : checkI ⟨t, nn, s0, rs⟩ = 0
  · have hlen := checkI_nonneg_len h0
    dsimp only at hlen
    rw [h0]
    by_cases hn : n < 0 ∨ nn ≤ n
    · have E1 := Lib.hid (show whereE ⟨t, nn, s0, rs⟩ n = 1 by simp [whereE, h0, hn])
      have E2 := Lib.hid (show whereL ⟨t, nn, s0, rs⟩ n p = [] by simp [whereL, E1.out])
      clear h0
      by_cases hn0 : n < 0
      · clear hn
        go_wp2
        go_ret2
        exact ⟨_, by rw [E1.out]; rfl, by rw [E2.out]; exact Own.nil _ _ _ _, Hb1.out⟩
      · have hn1 : nn ≤ n := by omega
        clear hn
        go_wp2
        go_ret2
        exact ⟨_, by rw [E1.out]; rfl, by rw [E2.out]; exact Own.nil _ _ _ _, Hb1.out⟩
    · have E1 := Lib.hid (show whereE ⟨t, nn, s0, rs⟩ n = 0 by simp [whereE, h0, hn])
      have E2 := Lib.hid (show whereL ⟨t, nn, s0, rs⟩ n p = whereFrom p 0 rs by simp [whereL, E1.out])
      have hn0 : ¬ n < 0 := by omega
      have hn1 : ¬ nn ≤ n := by omega
      clear h0 hn
      go_wp2
      go_loopw [9, 28] (fun v i wr => WhereL ⟨t, nn, s0, rs⟩ p A c w v i wr) (fun _ i _ => rs.length - (intOf i).toNat)
      case atStart => exact ⟨0, [], Nat.zero_le _, rfl, by simp, by simp, Hb1.out, Own.nil _ _ _ _⟩
      case round =>
        obtain ⟨wo, hwo⟩ : ∃ wo : World, wo = wr := ⟨_, rfl⟩
        subst hwo
        obtain ⟨k, out, hk, rfl, hol, hr, hb, hown⟩ := hrel
        dsimp only at hk hr
        have Hr := Lib.hid hr
        have HB := Lib.hid hb
        have HO := Lib.hid hown
        clear hr hb hown Hb1
        by_cases hlt : k < rs.length
        · obtain ⟨r, hx⟩ := get_some hlt
          obtain ⟨b, o, Ar, cr, rfl, hSb, hbs, hi, hrc, hcr, hEr, hc0, hc1⟩ := (hA.below HB.out).rule hx
          have Hd := Lib.hid (drop_cons hx)
          have HM := Lib.hid (List.mem_of_getElem? hx)
          obtain ⟨l, rr⟩ := r
          dsimp only at *
          have hba2 : Below wo.heap.size wo (wo.alloc (.cells #[.int .i64 l, .slice Ar rr.length cr] 57)) := (Below.refl _ _).alloc (Nat.le_refl _) _
          have HE2 := Lib.hid (hEr.below hba2)
          have HB2 := Lib.hid (bthen HB.out hba2 HB.out.size)
          have HO2 := Lib.hid (HO.out.below hba2 (Nat.le_refl _))
          clear hx hEr hba2
          have hk0 : (0 : Int) ≤ (k : Int) := by omega
          go_wp2_with fail
          refine (HC.out ⟨l, rr⟩ _ HM.out HB2.out Ar cr hrc hcr HE2.out).mono ?_
          rintro e w2 ⟨rfl, hb2⟩
          have HB3 := Lib.hid (bthen HB2.out hb2 HB2.out.size)
          have HO3 := Lib.hid (HO2.out.below hb2 (Nat.le_refl _))
          clear hb2
          cases hp : p ⟨l, rr⟩
          · have E3 := Lib.hid (show whereFrom p 0 rs = out ++ whereFrom p (k + 1) (rs.drop (k + 1)) by rw [Hr.out, Hd.out, whereFrom, hp]; rfl)
            clear hp
            go_wp2
            go_roundw
            case rel => exact ⟨k + 1, out, hlt, by go_num, by omega, E3.out, HB3.out, HO3.out⟩
            case measure => simp [intOf]; omega
          · have E3 := Lib.hid (show whereFrom p 0 rs = (out ++ [(k : Int)]) ++ whereFrom p (k + 1) (rs.drop (k + 1)) by rw [Hr.out, Hd.out, whereFrom, hp]; simp)
            clear hp
            have hcap1 : (out.length + 1) * 8 ≤ 140737488355328 := by omega
            have hcap2 : out.length + 1 ≤ 9223372036854775807 := by omega
            have HI : Hid (I64 (k : Int)) := Lib.hid ⟨by omega, by omega⟩
            go_wp2_with (at_builtin; refine wpList_own1 _ rfl _ _ elemInt rfl rfl (HO3.out.alloc _) (k : Int) [.int .i64 (k : Int)] rfl (At.new _ _ _) ⟨rfl, HI.out⟩ hcap1 hcap2 (Nat.le_trans HB3.out.size ((Below.refl _ _).alloc (Nat.le_refl _) _).size) ?_; intro v' w3 hown3 hg3 hat3; have H3 := Lib.hid (And.intro hown3 hg3); clear hown3 hg3 hat3)
            go_roundw
            case rel => exact ⟨k + 1, out ++ [(k : Int)], hlt, by go_num, by simp; omega, E3.out, bgrown (HB3.out.alloc HB3.out.size _) H3.out.2 (HO3.out.alloc _) (Nat.le_refl _) (Nat.le_trans HB3.out.size ((Below.refl _ _).alloc (Nat.le_refl _) _).size), H3.out.1⟩
            case measure => simp [intOf]; omega
        · have E4 := Lib.hid (show whereL ⟨t, nn, s0, rs⟩ n p = out by rw [E2.out, Hr.out, List.drop_of_length_le (by omega), whereFrom, List.append_nil])
          go_wp2
          go_ret2
          exact ⟨_, by rw [E1.out]; rfl, by rw [E4.out]; exact HO.out, HB.out⟩
  · have E1 := Lib.hid (show whereE ⟨t, nn, s0, rs⟩ n = checkI ⟨t, nn, s0, rs⟩ by simp [whereE, h0])
    have E2 := Lib.hid (show whereL ⟨t, nn, s0, rs⟩ n p = [] by simp [whereL, E1.out, h0])
    have hne : (checkI ⟨t, nn, s0, rs⟩ != 0) = true := by simpa using h0
    generalize checkI ⟨t, nn, s0, rs⟩ = ce at *
    clear h0
    go_wp2
    go_ret2
    exact ⟨_, by rw [E1.out]; rfl, by rw [E2.out]; exact Own.nil _ _ _ _, Hb1.out⟩

theorem of1_any (l n : Int) (sl : Value) (A : Option Addr) (k c G : Nat) (w : World) (g0 : w.cell? ⟨G, 0, none⟩ = some (.int .i64 n)) :
    Calls Tryd.prog 77 #[.agg #[.int .i64 l, .slice A k c], .pointer (some ⟨G, 0, none⟩)] w fun e w' => e = .returned (.bool (l == n)) ∧ Below w.heap.size w w' := by
  have hG : G < w.heap.size := World.block_lt_of_cell? w _ g0
  go_enter Tryd.func77, Tryd.ntmps77
  go_wp2
  go_ret
  exact ⟨rfl, (Below.refl _ _).alloc (Nat.le_refl _) _⟩

def ofL (g : Gram) (n : Int) : List Int := whereL g n (fun r => r.left == n)
set_option maxRecDepth 100000 in
theorem of_any (g : Gram) (n : Int) (A : Option Addr) (c : Nat) (S : Nat → Prop) (w : World) (hlc : g.rules.length ≤ c) (hc : c ≤ 9223372036854775807) (hA : Els w S g.rules A) :
    Calls Tryd.prog 44 #[.agg #[.int .i64 g.terms, .int .i64 g.nons, .int .i64 g.start, .slice A g.rules.length c], .int .i64 n] w (RetInts w (ofL g n) (whereE g n)) := by
  obtain ⟨t, nn, s0, rs⟩ := g
  dsimp only at *
  have hba : Below w.heap.size w ((w.alloc (.cells #[.int .i64 t, .int .i64 nn, .int .i64 s0, .slice A rs.length c] 25)).alloc (.cells #[.int .i64 n] 3)) := ((Below.refl _ _).alloc (Nat.le_refl _) _).alloc (by simp) _
  have Hba := Lib.hid hba
  have HA1 := Lib.hid (hA.below hba)
  have HG1 := Lib.hid (Blk'.new' (g := w.heap.size + 1) (w.alloc (.cells #[.int .i64 t, .int .i64 nn, .int .i64 s0, .slice A rs.length c] 25)) 3 #[.int .i64 n] (by simp))
  clear hba
  go_enter Tryd.func44, Tryd.ntmps44
  go_wp2_with fail
  refine (where_any ⟨t, nn, s0, rs⟩ n A c S _ _ _ (fun r => r.left == n) hlc hc HA1.out (isGo_of Tryd.func77 (by kernel_rfl) (by kernel_rfl)) (fun x W _ hW A' c' _ _ _ => of1_any x.left n .nilIface A' _ c' (w.heap.size + 1) W ((HG1.out.below hW (by simp)).cell 0))).mono ?_
  rintro e w1 ⟨v, rfl, hown, hb1⟩
  have HO := Lib.hid hown
  have HB := Lib.hid (bthen Hba.out hb1 (by simp; omega))
  clear hown hb1
  go_wp2
  go_ret2
  exact ⟨v, rfl, HO.out.base (by simp; omega), HB.out⟩
end Go.Proofs.YtnlpeiffbnlncaaDoor
