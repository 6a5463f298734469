/- Contracts: useful.Lengths, Ends, Reached, of a valid grammar. -/
import Derived.Test.YtpkfalhpkkponaaDoorUsefulLen
import Derived.Test.YtpkfalhpkkponaaDoorReaPub
namespace Go.Proofs.YtpkfalhpkkponaaDoor
open Go.RowKit
set_option linter.unusedVariables false

def RetLens (g : Gram) (n : Nat) (w : World) (e : Ending) (w' : World) : Prop :=
  ∃ b l, e = .returned (.tuple #[.slice (some ⟨b, 0, none⟩) n n, .int .i64 0]) ∧ LFix g n l ∧ Blk' w' b 3 (icells l) ∧ w.heap.size ≤ b ∧ Below w.heap.size w w'
def RetEnds (g : Gram) (n : Nat) (w : World) (e : Ending) (w' : World) : Prop :=
  ∃ v l, e = .returned (.tuple #[v, .int .i64 0]) ∧ LFix g n l ∧ Own w' (fun _ => False) w.heap.size 4 v (l.map fun x => decide (0 ≤ x)) ∧ Below w.heap.size w w'

set_option maxRecDepth 100000 in
theorem lengthsPub_any (g : Gram) (n : Nat) (A : Option Addr) (c : Nat) (S : Nat → Prop) (w : World) (hgn : g.nons = (n : Int)) (hck : checkI g = 0) (hlc : g.rules.length ≤ c) (hc : c ≤ 9223372036854775807) (hA : Els w S g.rules A) (hS : ∀ b, S b → b < w.heap.size) :
    Calls Tryd.prog 24 #[.agg #[.int .i64 g.terms, .int .i64 g.nons, .int .i64 g.start, .slice A g.rules.length c]] w (RetLens g n w) := by
  have hv := validG_of hck
  have hri := hv.rulesIn hgn
  obtain ⟨gt, gn, gs, rs⟩ := g
  dsimp only at *
  subst hgn
  have hn1 : 1 ≤ n ∧ n ≤ 10 := by have := hv.n1; have := hv.n10; dsimp only at *; omega
  have hrl : rs.length ≤ 32 := hv.len
  have HRI := Lib.hid hri
  have HA := Lib.hid hA
  have HS := Lib.hid hS
  have HC := Lib.hid hck
  have HN := Lib.hid hn1
  have HB0 : Hid (Below w.heap.size w (w.alloc (.cells #[.int .i64 gt, .int .i64 (n : Int), .int .i64 gs, .slice A rs.length c] 25))) := Lib.hid ((Below.refl _ _).alloc (Nat.le_refl _) _)
  clear hv hri hA hS hck hn1
  go_enter Tryd.func24, Tryd.ntmps24
  go_wp2_with fail
  refine (check_any ⟨gt, (n : Int), gs, rs⟩ A c S _ hlc hc (HA.out.below HB0.out)).mono ?_
  rintro e w1 ⟨rfl, hb1⟩
  rw [HC.out]
  have hG := (Blk'.new w 25 #[.int .i64 gt, .int .i64 (n : Int), .int .i64 gs, .slice A rs.length c]).below hb1 (by simp)
  have g0 : w1.cell? ⟨w.heap.size, 0, none⟩ = some (.int .i64 gt) := hG.cell 0
  have g1 : w1.cell? ⟨w.heap.size, 1, none⟩ = some (.int .i64 (n : Int)) := hG.cell 1
  have g2 : w1.cell? ⟨w.heap.size, 2, none⟩ = some (.int .i64 gs) := hG.cell 2
  have g3 : w1.cell? ⟨w.heap.size, 3, none⟩ = some (.slice A rs.length c) := hG.cell 3
  have HB1 := Lib.hid (bthen HB0.out hb1 (by simp))
  clear hb1 hG
  go_wp2_with fail
  refine (lengths_any ⟨gt, (n : Int), gs, rs⟩ n A c S _ rfl HN.out hlc hc (HA.out.below HB1.out) (fun b hb => by have := HS.out b hb; have := HB1.out.size; omega) (by show rs.length ≤ 1000; omega) HRI.out).mono ?_
  rintro e w2 ⟨b, l, rfl, hfix, hL, hge, hb2⟩
  have H2 := Lib.hid (And.intro hfix (And.intro hL (And.intro hge (bthen HB1.out hb2 HB1.out.size))))
  have hz := HB1.out.size
  clear hfix hL hge hb2 g0 g1 g2 g3
  go_wp2
  go_ret2
  exact ⟨b, l, rfl, H2.out.1, H2.out.2.1, by have := H2.out.2.2.1; omega, H2.out.2.2.2⟩

def EndL (l : List Int) (B : Nat) (w2 : World) (v i : Value) (wr : World) : Prop :=
  ∃ (k : Nat), k ≤ l.length ∧ i = .int .i64 k ∧ Own wr (fun _ => False) B 4 v ((l.take k).map fun x => decide (0 ≤ x)) ∧ Below w2.heap.size w2 wr
set_option maxRecDepth 100000 in
set_option maxHeartbeats 1000000 in
theorem ends_any (g : Gram) (n : Nat) (A : Option Addr) (c : Nat) (S : Nat → Prop) (w : World) (hgn : g.nons = (n : Int)) (hck : checkI g = 0) (hlc : g.rules.length ≤ c) (hc : c ≤ 9223372036854775807) (hA : Els w S g.rules A) (hS : ∀ b, S b → b < w.heap.size) :
    Calls Tryd.prog 27 #[.agg #[.int .i64 g.terms, .int .i64 g.nons, .int .i64 g.start, .slice A g.rules.length c]] w (RetEnds g n w) := by
  have hv := validG_of hck
  have hn10 : n ≤ 10 := by have := hv.n10; omega
  have HB0 : Hid (Below w.heap.size w (w.alloc (.cells #[.int .i64 g.terms, .int .i64 g.nons, .int .i64 g.start, .slice A g.rules.length c] 25))) := Lib.hid ((Below.refl _ _).alloc (Nat.le_refl _) _)
  have HA := Lib.hid hA
  have HS : Hid (∀ b, S b → b < (w.alloc (.cells #[.int .i64 g.terms, .int .i64 g.nons, .int .i64 g.start, .slice A g.rules.length c] 25)).heap.size) := Lib.hid (fun b hb => by have := hS b hb; simp; omega)
  have HC := Lib.hid hck
  have HN := Lib.hid hgn
  clear hA hS hck hgn hv
  go_enter Tryd.func27, Tryd.ntmps27
  go_wp2_with fail
  refine (lengthsPub_any g n A c S _ HN.out HC.out hlc hc (HA.out.below HB0.out) HS.out).mono ?_
  rintro e w2 ⟨b, l, rfl, hfix, hL, hge, hb2⟩
  have HF := Lib.hid hfix
  have HL := Lib.hid hL
  have HB2 := Lib.hid (bthen HB0.out hb2 (by simp))
  have hll : l.length = n := hfix.shape.len
  have HLl := Lib.hid hll
  have hbl := hL.lt
  have hz2 := HB2.out.size
  have hn9 : n ≤ 9223372036854775807 := by omega
  clear hfix hL hge hb2 hll
  go_wp2_with fail
  go_loopw [6, 19] (fun v i wr => EndL l w2.heap.size w2 v i wr) (fun _ i _ => n - (intOf i).toNat)
  case atStart => exact ⟨0, Nat.zero_le _, rfl, by simpa using Own.nil _ _ _ _, Below.refl _ _⟩
  case round =>
    obtain ⟨wo, hwo⟩ : ∃ wo : World, wo = wr := ⟨_, rfl⟩
    subst hwo
    obtain ⟨k, hk, rfl, hown, hb⟩ := hrel
    have hk' : k ≤ n := by rw [← HLl.out]; exact hk
    have HO := Lib.hid hown
    have HB := Lib.hid hb
    have hbw : b < wo.heap.size := by have := hb.size; omega
    have hLo := HL.out.below hb HL.out.lt
    have hsz := hb.size
    clear hown hb hk
    by_cases hlt : k < n
    · obtain ⟨x, hx⟩ := get_some (show k < l.length by rw [HLl.out]; exact hlt)
      have cx : wo.cell? ⟨b, k, none⟩ = some (.int .i64 x) := (hLo.cell _).trans (icells_get hx)
      have HT := Lib.hid (show (l.take (k + 1)).map (fun x => decide (0 ≤ x)) = (l.take k).map (fun x => decide (0 ≤ x)) ++ [decide (0 ≤ x)] by rw [take_snoc hx, List.map_append]; rfl)
      have hlen : ((l.take k).map fun x => decide (0 ≤ x)).length = k := by simp; rw [HLl.out]; omega
      have HLen := Lib.hid hlen
      have hcap1 : (((l.take k).map fun x => decide (0 ≤ x)).length + 1) * 1 ≤ 140737488355328 := by rw [hlen]; omega
      have hcap2 : ((l.take k).map fun x => decide (0 ≤ x)).length + 1 ≤ 9223372036854775807 := by rw [hlen]; omega
      have HCap := Lib.hid (And.intro hcap1 hcap2)
      have hk0 : (0 : Int) ≤ (k : Int) := by omega
      have hk1 : (k : Int) < (n : Int) := by omega
      have HOa := Lib.hid (HO.out.alloc (.cells #[.bool (decide (0 ≤ x))] 4))
      clear hx hLo hlen hcap1 hcap2
      go_wp2_with (at_builtin; refine wpList_own1 _ rfl _ _ elemBool rfl rfl HOa.out (decide (0 ≤ x)) [.bool (decide (0 ≤ x))] rfl (At.new _ _ _) rfl HCap.out.1 HCap.out.2 (by simp; omega) ?_; intro v' w5 hown5 hg5 hat5; have H5 := Lib.hid (And.intro hown5 hg5); clear hown5 hg5 hat5)
      go_roundw
      case rel => exact ⟨k + 1, by rw [HLl.out]; exact hlt, by go_num, by rw [HT.out]; exact H5.out.1, bgrown (HB.out.alloc HB.out.size _) H5.out.2 HOa.out (Nat.le_refl _) (by simp; omega)⟩
      case measure => simp [intOf]; omega
    · have hkn : k = n := by omega
      have HE := Lib.hid (show (l.take k).map (fun x => decide (0 ≤ x)) = l.map fun x => decide (0 ≤ x) by rw [List.take_of_length_le (by rw [HLl.out]; omega)])
      clear hLo
      go_wp2
      go_ret2
      exact ⟨_, l, rfl, HF.out, by have h := HO.out.base (show w.heap.size ≤ w2.heap.size by omega); rw [HE.out] at h; exact h, HB2.out.trans (HB.out.mono hz2)⟩
end Go.Proofs.YtpkfalhpkkponaaDoor
