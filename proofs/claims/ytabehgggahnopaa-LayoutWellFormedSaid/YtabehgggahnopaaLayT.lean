/- Contracts: layout.Tokens' closures add and top. -/
import Derived.Test.YtabehgggahnopaaLayS
import Derived.Test.YtabehgggahnopaaTwo
namespace Go.Proofs.Ytabehgggahnopaa
open Go.RowKit
set_option linter.unusedVariables false

def lastD (l : List Int) : Int := (l[l.length - 1]?).getD 0
def kK (k : K3) (i : Nat) : Int := if i = 0 then k.k0 else if i = 1 then k.k1 else k.k2

set_option maxRecDepth 100000 in
set_option maxHeartbeats 4000000 in
theorem ltop_any {X : Nat → Prop} {z : Nat} {out : List Tok} {stk : List Int} {vo vs : Value} (w : World) (h : TkV X z out stk vo vs w) (hs : stk ≠ []) :
    Calls Try.prog 28 #[.pointer (some ⟨z + 2, 0, none⟩)] w fun e w' => e = .returned (.int .i64 (lastD stk)) ∧ w = w' := by
  obtain ⟨h1, h2, h3, h4, h5, h6, h7⟩ := h
  obtain ⟨m, hm⟩ : ∃ m, stk.length = m + 1 := ⟨stk.length - 1, by have := List.length_pos_iff.2 hs; omega⟩
  obtain ⟨x, hx⟩ := get_some (show m < stk.length by omega)
  have hl : lastD stk = x := by unfold lastD; rw [hm, Nat.add_sub_cancel, hx]; rfl
  have hE := h4.vl
  obtain ⟨A, c, rfl, hc1, hc2, _⟩ := h4.form
  obtain ⟨b, o, rfl, _, hb, hxi, hxc⟩ := hE.els.2.2.2.int hx
  have q0 : w.cell? ⟨z + 2, 0, none⟩ = some (.slice (some ⟨b, o, none⟩) (m + 1) c) := by rw [← hm]; exact h2.cell 0
  have zz : z + 2 < w.heap.size := h2.lt
  have hc3 : m + 1 ≤ c := by omega
  have hi1 : I64 x := hxi
  have hn0 : (0 : Int) ≤ (m : Int) := by omega
  have HX := Lib.hid hl
  have hw : wrap64 (m : Int) = (m : Int) := IntWalk.wrap64_in _ (by omega)
  have hw2 : IntKind.i64.wrap (m : Int) = (m : Int) := IntWalk.i64_in _ (by omega)
  clear h1 h2 h3 h4 h5 h6 h7 hm hx hE hl hs hc1
  go_enter Try.func28, Try.ntmps28
  go_wp2
  go_ret
  exact ⟨by rw [HX.out]; rfl, rfl⟩

set_option maxRecDepth 100000 in
set_option maxHeartbeats 4000000 in
theorem ladd_any {X : Nat → Prop} {z : Nat} {out : List Tok} {stk : List Int} {vo vs : Value} (k : K3) (i : Nat) (at_ : Int) (kb : Nat) (w : World) (h : TkV X z out stk vo vs w) (hi : i < 3) (hk : I64 k.k0 ∧ I64 k.k1 ∧ I64 k.k2) (ha : I64 at_) (hl : out.length ≤ 100000) (hK : Blk' w kb 23 #[.int .i64 k.k0, .int .i64 k.k1, .int .i64 k.k2]) :
    Calls Try.prog 27 #[.int .i64 i, .int .i64 at_, .pointer (some ⟨z, 0, none⟩), .pointer (some ⟨kb, 0, none⟩)] w fun e w' => e = .returned (.tuple #[]) ∧ (∃ vo', TkV X z (out ++ [⟨kK k i, at_, at_⟩]) stk vo' vs w') ∧ Kept (fun b => ¬ X b) w w' := by
  have HT := Lib.hid h
  obtain ⟨h1, h2, h3, h4, h5, h6, h7⟩ := h
  obtain ⟨n, hn⟩ : ∃ n, n = kK k i := ⟨_, rfl⟩
  have hni : I64 n := by rw [hn]; unfold kK; split; exact hk.1; split; exact hk.2.1; exact hk.2.2
  rw [← hn]
  have hkc : w.cell? ⟨kb, i, none⟩ = some (.int .i64 n) := by
    rw [hn, hK.cell i]
    match i, hi with
    | 0, _ => rfl
    | 1, _ => rfl
    | 2, _ => rfl
  obtain ⟨A, c, rfl, hc1, hc2, _⟩ := h3.form
  have q0 : w.cell? ⟨z, 0, none⟩ = some (.slice A out.length c) := h1.cell 0
  have f0 := h1.frozen 0
  have zz : z < w.heap.size := h1.lt
  have zk : kb < w.heap.size := hK.lt
  have hi0 : (0 : Int) ≤ (i : Int) := by omega
  have hi3 : (i : Int) < 3 := by omega
  have HO := Lib.hid h3
  have HI := Lib.hid (And.intro hni ha)
  have hz3 : z + 3 ≤ w.heap.size := by have := h2.lt; omega
  have hcap1 : (out.length + 1) * 24 ≤ 140737488355328 := by omega
  have hcap2 : out.length + 1 ≤ 9223372036854775807 := by omega
  have HN : Hid (some z ≠ (Value.slice A out.length c).ownBlock) := Lib.hid (fun e => by have := (h3.block z e.symm).1; omega)
  have HB := Lib.hid h1
  clear h1 h2 h3 h4 h5 h6 h7 hn hK hk hni ha hc1
  go_enter Try.func27, Try.ntmps27
  go_region_law
    (first
    | (refine step_own1 _ (by rfl) _ _ elemTok (by rfl) (by rfl) ((HO.out.alloc _).drew) ⟨n, at_, at_⟩ [.int .i64 n, .int .i64 at_, .int .i64 at_] (by rfl) (At.drew (At.new _ _ _)) ⟨rfl, HI.out.1, HI.out.2, HI.out.2⟩ (by omega) (by omega) (by simp; omega) ?_
       intro v' wA hA gA aA
       obtain ⟨A3, k3, e3, _⟩ := hA.form; rw [snoc_len] at e3; subst e3
       have bO : Blk' wA z 22 #[.slice A out.length c] := ((HB.out.alloc _).drew).grown gA HN.out
       have l0 : wA.cell? ⟨z, 0, none⟩ = some (.slice A out.length c) := bO.cell 0
       have fl := bO.frozen 0
       have zA : z < wA.heap.size := bO.lt
       have HA := Lib.hid (And.intro hA (And.intro gA aA))
       clear hA gA aA bO))
  all_goals
    go_end0
    obtain ⟨hA, gA, aA⟩ := HA.out
    have hba : Below w.heap.size w (w.alloc (.cells #[.int .i64 n, .int .i64 at_, .int .i64 at_] 28)).drew := ((Below.refl _ _).alloc (Nat.le_refl _) _).drew
    obtain ⟨p1, p2⟩ := (HT.out.below hba).push hA gA aA
    exact ⟨rfl, ⟨_, p1⟩, (Kept.of_below _ hba).trans p2⟩
end Go.Proofs.Ytabehgggahnopaa
