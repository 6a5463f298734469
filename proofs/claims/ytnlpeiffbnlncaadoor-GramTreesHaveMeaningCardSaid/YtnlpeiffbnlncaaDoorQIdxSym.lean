/- Contracts: slices.IndexFunc and slices.ContainsFunc at symbols, at whatever predicate. -/
import Derived.Test.YtnlpeiffbnlncaaDoorQp1
namespace Go.Proofs.YtnlpeiffbnlncaaDoor
open Go.RowKit
set_option linter.unusedVariables false

set_option maxRecDepth 100000 in
theorem idxSym_any (A : Option Addr) (c : Nat) (xs : List Sym) (S : Nat → Prop) (w : World) (F : Nat) (cap : Value) (p : Sym → Bool) (hm : xs.length ≤ 9223372036854775807) (hA : Els w S xs A) (hgo : IsGo F)
    (hcall : ∀ (x : Sym) (W : World), x ∈ xs → Below w.heap.size w W → Calls Tryd.prog F #[.agg #[.bool x.term, .int .i64 x.n], cap] W fun e W' => e = .returned (.bool (p x)) ∧ Below W.heap.size W W') :
    Calls Tryd.prog 84 #[.slice A xs.length c, .func (.func F) #[] #[cap]] w fun e w' => e = .returned (.int .i64 (idxI p xs)) ∧ Below w.heap.size w w' := by
  have HC := Lib.hid hcall
  have hgo' : ∀ (args : Array Value) (W : World), (callFunc F args).run Tryd.prog W = .ok (.enter F args) W := hgo
  clear hcall hgo
  go_enter Tryd.func84, Tryd.ntmps84
  go_wp2
  go_loopw [8] (fun i wr => ∃ k : Nat, k ≤ xs.length ∧ i = .int .i64 k ∧ (∀ y ∈ xs.take k, p y = false) ∧ Below w.heap.size w wr) (fun i _ => xs.length - (intOf i).toNat)
  case atStart => exact ⟨0, Nat.zero_le _, rfl, by simp, Below.refl _ _⟩
  case round =>
    obtain ⟨k, hk, rfl, hno, hb⟩ := hrel
    have HN := Lib.hid hno
    have HB := Lib.hid hb
    clear hno hb
    by_cases hlt : k < xs.length
    · obtain ⟨x, hx⟩ := get_some hlt
      obtain ⟨b, o, rfl, _, hbs, hi, hc0, hc1⟩ := (hA.below HB.out).sym hx
      have HX := Lib.hid hx
      have HM := Lib.hid (List.mem_of_getElem? hx)
      clear hx
      have hk0 : (0 : Int) ≤ (k : Int) := by omega
      have hk1 : (k : Int) < (xs.length : Int) := by omega
      go_wp2_with fail
      refine (HC.out x _ HM.out HB.out).mono ?_
      rintro e w1 ⟨rfl, hb1⟩
      have HB1 := Lib.hid hb1
      clear hb1
      cases hp : p x
      · go_wp2
        go_roundw
        case rel => exact ⟨k + 1, by omega, by go_num, by
          rw [take_snoc HX.out]
          intro y hy
          rcases List.mem_append.1 hy with h | h
          · exact HN.out y h
          · simp at h; subst h; exact hp, bthen HB.out HB1.out HB.out.size⟩
        case measure => simp [intOf]; omega
      · have E0 := Lib.hid (idxI_hit HX.out hp HN.out)
        clear hp
        go_wp2
        go_ret
        exact ⟨ret_int E0.out.symm, bthen HB.out HB1.out HB.out.size⟩
    · have E0 := Lib.hid (show idxI p xs = -1 from idxI_none (by have h := HN.out; rwa [List.take_of_length_le (by omega)] at h))
      go_wp2
      go_ret
      exact ⟨ret_int E0.out.symm, HB.out⟩

theorem contSym_any (A : Option Addr) (c : Nat) (xs : List Sym) (S : Nat → Prop) (w : World) (F : Nat) (cap : Value) (p : Sym → Bool) (hm : xs.length ≤ 9223372036854775807) (hA : Els w S xs A) (hgo : IsGo F)
    (hcall : ∀ (x : Sym) (W : World), x ∈ xs → Below w.heap.size w W → Calls Tryd.prog F #[.agg #[.bool x.term, .int .i64 x.n], cap] W fun e W' => e = .returned (.bool (p x)) ∧ Below W.heap.size W W') :
    Calls Tryd.prog 50 #[.slice A xs.length c, .func (.func F) #[] #[cap]] w fun e w' => e = .returned (.bool (xs.any p)) ∧ Below w.heap.size w w' := by
  have HC := Lib.hid hcall
  have HG := Lib.hid hgo
  have HA := Lib.hid hA
  clear hcall hgo hA
  go_enter Tryd.func50, Tryd.ntmps50
  go_wp2_with fail
  refine (idxSym_any A c xs S w F cap p hm HA.out HG.out HC.out).mono ?_
  rintro e w1 ⟨rfl, hb1⟩
  go_wp2
  go_ret
  exact ⟨ret_bool (idxI_nonneg p xs), hb1⟩

theorem contSym_n (A : Option Addr) (n c : Nat) (xs : List Sym) (hn : n = xs.length) (S : Nat → Prop) (w : World) (F : Nat) (cap : Value) (p : Sym → Bool) (hm : xs.length ≤ 9223372036854775807) (hA : Els w S xs A) (hgo : IsGo F)
    (hcall : ∀ (x : Sym) (W : World), x ∈ xs → Below w.heap.size w W → Calls Tryd.prog F #[.agg #[.bool x.term, .int .i64 x.n], cap] W fun e W' => e = .returned (.bool (p x)) ∧ Below W.heap.size W W') :
    Calls Tryd.prog 50 #[.slice A n c, .func (.func F) #[] #[cap]] w fun e w' => e = .returned (.bool (xs.any p)) ∧ Below w.heap.size w w' := by
  subst hn; exact contSym_any A c xs S w F cap p hm hA hgo hcall
end Go.Proofs.YtnlpeiffbnlncaaDoor
