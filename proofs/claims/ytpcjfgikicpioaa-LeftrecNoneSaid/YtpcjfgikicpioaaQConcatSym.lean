/- Contracts: slices.Grow of nil and slices.Concat, at symbols. -/
import Derived.Test.YtpcjfgikicpioaaQp1
import Derived.Test.YtpcjfgikicpioaaChecked
namespace Go.Proofs.Ytpcjfgikicpioaa
open Go.RowKit
set_option linter.unusedVariables false


def RoomSym (w0 : World) (n : Nat) (e : Ending) (w' : World) : Prop :=
  ∃ v, e = .returned v ∧ (∀ S, Own w' S w0.heap.size 73 v ([] : List Sym)) ∧ Below w0.heap.size w0 w'

set_option maxRecDepth 100000 in
theorem growSym_any (n : Nat) (w : World) (hn : n * 16 ≤ 140737488355328) :
    Calls Try.prog 89 #[.slice none 0 0, .int .i64 n] w (RoomSym w n) := by
  by_cases h0 : n = 0
  · subst h0
    go_enter Try.func89, Try.ntmps89
    go_wp2
    go_ret
    exact ⟨_, rfl, fun S => Own.nil _ _ _ _, Below.refl _ _⟩
  · have hp : (0 : Int) < (n : Int) := by omega
    obtain ⟨w', g, cap, hr, hg, hc1, hc2, hown, hb, hsz⟩ := run_room (ty := 69) (w := w) (k := .i64) elemSym Try.underlying3 n (by omega) (by omega) (by omega)
    subst hg
    have Hr := Lib.hid hr
    clear hr
    have hc3 : (0 : Int) ≤ (cap : Int) := by omega
    go_enter Try.func89, Try.ntmps89
    go_wp2_with (at_builtin; refine Lib.wpList_append_run _ rfl _ _ _ _ rfl _ _ rfl rfl _ _ Hr.out ?_)
    go_ret
    exact ⟨_, rfl, hown, hb⟩

set_option maxRecDepth 100000 in
set_option maxHeartbeats 400000 in
theorem concatSym_any (A : Option Addr) (c : Nat) (xss : List (List Sym)) (S : Nat → Prop) (w : World) (hl : xss.length ≤ 9223372036854775807) (hA : Els w S xss A) (hS : ∀ b, S b → b < w.heap.size) (htot0 : xss.flatten.length * 16 ≤ 140737488355328) :
    Calls Try.prog 86 #[.slice A xss.length c] w (RetOwn w S 73 xss.flatten) := by
  go_enter Try.func86, Try.ntmps86
  have HTot := Lib.hid htot0
  have htot := htot0
  clear htot0
  go_wp2
  go_loop [3, 11] (fun n i => ∃ k : Nat, k ≤ xss.length ∧ i = .int .i64 k ∧ n = .int .i64 ((xss.take k).flatten.length : Nat)) (fun _ i => xss.length - (intOf i).toNat)
  case atStart => exact ⟨0, Nat.zero_le _, rfl, rfl⟩
  case round =>
    obtain ⟨k, hk, rfl, rfl⟩ := hrel
    by_cases hlt : k < xss.length
    · obtain ⟨x, hx⟩ := get_some hlt
      obtain ⟨b, o, A', c', rfl, _, hbs, hxc, hcm, _, hcell⟩ := hA.list hx
      have hts := flat_take_snoc hx
      have hle := flat_take_le xss (k + 1)
      have hlen : (xss.take (k + 1)).flatten.length = (xss.take k).flatten.length + x.length := by rw [hts, List.length_append]
      rw [hlen] at hle
      have HL := Lib.hid hlen
      clear hts hlen hx
      generalize (xss.take k).flatten.length = m at *
      have hnn : ¬ ((m : Int) + (x.length : Int) < 0) := by omega
      go_wp2
      go_round
      case rel => exact ⟨k + 1, by omega, by go_num, by rw [HL.out]; go_num⟩
      case measure => simp [intOf]; omega
    · have hkx : k = xss.length := by omega
      subst hkx
      rw [List.take_length]
      have Hm := Lib.hid htot
      generalize xss.flatten.length = m at Hm ⊢
      clear htot
      go_wp2_with fail
      refine (growSym_any _ w Hm.out).mono ?_
      rintro e w1 ⟨v1, rfl, hown, hb1⟩
      have HO := Lib.hid (hown S)
      have HB := Lib.hid hb1
      clear hown hb1
      go_wp2
      go_loopw [6, 27] (fun v i wr => ∃ k : Nat, k ≤ xss.length ∧ i = .int .i64 k ∧ Own wr S w.heap.size 73 v (xss.take k).flatten ∧ Below w.heap.size w wr) (fun _ i _ => xss.length - (intOf i).toNat)
      case atStart => exact ⟨0, Nat.zero_le _, rfl, HO.out, HB.out⟩
      case round =>
        obtain ⟨k, hk, rfl, hown, hb⟩ := hrel
        have HO := Lib.hid hown
        have HB := Lib.hid hb
        clear hown hb
        by_cases hlt : k < xss.length
        · obtain ⟨x, hx⟩ := get_some hlt
          obtain ⟨b, o, A', c', rfl, _, hbs, hxc, hcm, hA', hcell⟩ := (hA.below HB.out).list hx
          have HA' := Lib.hid (hA'.own HO.out hS HB.out.size)
          have hts := flat_take_snoc hx
          have hle := flat_take_le xss (k + 1)
          rw [hts, List.length_append] at hle
          have htot := HTot.out
          have HT := Lib.hid hts
          clear hts hx hA'
          go_wp2_with (at_builtin; refine wpList_ownMany _ rfl _ _ elemSym rfl rfl HO.out x rfl rfl HA'.out (by omega) (by omega) HB.out.size ?_; intro v' w' hown' hg' _)
          have HO' := Lib.hid hown'
          have HG := Lib.hid hg'
          clear hown' hg'
          go_wp2
          go_roundw
          case rel => exact ⟨k + 1, by omega, by go_num, by rw [HT.out]; exact HO'.out, bgrown HB.out HG.out HO.out (Nat.le_refl _) HB.out.size⟩
          case measure => simp [intOf]; omega
        · have hkx : k = xss.length := by omega
          subst hkx
          go_wp2
          go_ret
          exact ⟨_, rfl, by have h := HO.out; rwa [List.take_length] at h, HB.out⟩

end Go.Proofs.Ytpcjfgikicpioaa
