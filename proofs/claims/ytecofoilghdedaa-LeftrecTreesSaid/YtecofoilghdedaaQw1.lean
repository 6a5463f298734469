/- Contracts of this proof, of several texts joined: Cmp, IdxSym, IdxRule, ConcatSym, ContInt, SymMk, EqInt. -/
import Derived.Test.YtecofoilghdedaaQp1
import Derived.Test.YtecofoilghdedaaChecked
import Derived.Test.YtecofoilghdedaaQp2
import Derived.Deep.QuietTactic
import Derived.BigQuiet
/- Contracts: cmp.Compare at int, cmp.Or at int. -/
namespace Go.Proofs.Ytecofoilghdedaa
open Go.RowKit

def cmpI (a b : Int) : Int := if a < b then -1 else if b < a then 1 else 0
theorem cmpI_range (a b : Int) : I64 (cmpI a b) := by unfold cmpI I64; split <;> (try split) <;> omega
def orI : List Int → Int
  | [] => 0
  | x :: xs => if x = 0 then orI xs else x

theorem isNaN_any (x : Int) (w : World) : Calls Try.prog 44 #[.int .i64 x] w fun e w' => e = .returned (.bool false) ∧ w = w' := by
  go_enter Try.func44, Try.ntmps44
  go_wp2
  go_ret
  exact ⟨by simp, rfl⟩

theorem cmpInt_any (x y : Int) (w : World) : Calls Try.prog 22 #[.int .i64 x, .int .i64 y] w fun e w' => e = .returned (.int .i64 (cmpI x y)) ∧ w = w' := by
  go_enter Try.func22, Try.ntmps22
  go_wp2_with (go_at_call 44; refine (isNaN_any _ _).mono ?_; rintro e w' ⟨rfl, rfl⟩)
  all_goals
    go_ret
    refine ⟨?_, rfl⟩
    simp [cmpI]
    omega

set_option maxRecDepth 100000 in
theorem or_any (A : Option Addr) (c : Nat) (xs : List Int) (S : Nat → Prop) (w : World) (hn : xs.length ≤ c) (hc : c ≤ 9223372036854775807) (hA : Els w S xs A) :
    Calls Try.prog 59 #[.slice A xs.length c] w fun e w' => e = .returned (.int .i64 (orI xs)) ∧ w = w' := by
  go_enter Try.func59, Try.ntmps59
  go_wp2
  go_loop [8] (fun i => ∃ k : Nat, k ≤ xs.length ∧ i = .int .i64 k ∧ orI xs = orI (xs.drop k)) (fun i => xs.length - (intOf i).toNat)
  case atStart => exact ⟨0, Nat.zero_le _, rfl, rfl⟩
  case round =>
    obtain ⟨k, hk, rfl, hr⟩ := hrel
    have Hr := Lib.hid hr
    clear hr
    by_cases hlt : k < xs.length
    · obtain ⟨x, hx⟩ := get_some hlt
      obtain ⟨b, o, rfl, _, hb, hi, hcell⟩ := hA.int hx
      have Hd := Lib.hid (drop_cons hx)
      clear hx hA
      by_cases h0 : x = 0
      · subst h0
        go_wp2
        go_round
        case rel => exact ⟨k + 1, by omega, by go_num, by rw [Hr.out, Hd.out]; simp [orI]⟩
        case measure => simp [intOf]; omega
      · have h1 : (x != 0) = true := by simpa using h0
        have Hh := Lib.hid h0
        clear h0
        go_wp2
        go_ret
        exact ⟨ret_int (by rw [Hr.out, Hd.out, orI, if_neg Hh.out]), rfl⟩
    · go_wp2
      go_ret
      exact ⟨ret_int (by rw [Hr.out, List.drop_of_length_le (by omega)]; rfl), rfl⟩
/-- cmp.Or of two and of three numbers that lie in a new block. -/
theorem or2_any (g c : Nat) (x y : Int) (w : World) (hx : I64 x) (hy : I64 y) (hc : 2 ≤ c) (hc' : c ≤ 9223372036854775807) (h0 : w.cell? ⟨g, 0, none⟩ = some (.int .i64 x)) (h1 : w.cell? ⟨g, 1, none⟩ = some (.int .i64 y)) :
    Calls Try.prog 59 #[.slice (some ⟨g, 0, none⟩) 2 c] w fun e w' => e = .returned (.int .i64 (orI [x, y])) ∧ w = w' :=
  or_any (some ⟨g, 0, none⟩) c [x, y] (fun _ => True) w hc hc' fun _ => ⟨g, 0, rfl, trivial, fun i z hi => by
    match i, hi with
    | 0, hi => simp at hi; subst hi; exact ⟨[.int .i64 x], ⟨rfl, hx⟩, fun j u hu => by match j, hu with | 0, hu => simp at hu; subst hu; exact h0⟩
    | 1, hi => simp at hi; subst hi; exact ⟨[.int .i64 y], ⟨rfl, hy⟩, fun j u hu => by match j, hu with | 0, hu => simp at hu; subst hu; exact h1⟩⟩
end Go.Proofs.Ytecofoilghdedaa

/- Contracts: slices.IndexFunc and slices.ContainsFunc at symbols, at whatever predicate. -/
namespace Go.Proofs.Ytecofoilghdedaa
open Go.RowKit
set_option linter.unusedVariables false

set_option maxRecDepth 100000 in
theorem idxSym_any (A : Option Addr) (c : Nat) (xs : List Sym) (S : Nat → Prop) (w : World) (F : Nat) (cap : Value) (p : Sym → Bool) (hm : xs.length ≤ 9223372036854775807) (hA : Els w S xs A) (hgo : IsGo F)
    (hcall : ∀ (x : Sym) (W : World), x ∈ xs → Below w.heap.size w W → Calls Try.prog F #[.agg #[.bool x.term, .int .i64 x.n], cap] W fun e W' => e = .returned (.bool (p x)) ∧ Below W.heap.size W W') :
    Calls Try.prog 57 #[.slice A xs.length c, .func (.func F) #[] #[cap]] w fun e w' => e = .returned (.int .i64 (idxI p xs)) ∧ Below w.heap.size w w' := by
  have HC := Lib.hid hcall
  have hgo' : ∀ (args : Array Value) (W : World), (callFunc F args).run Try.prog W = .ok (.enter F args) W := hgo
  clear hcall hgo
  go_enter Try.func57, Try.ntmps57
  go_wp2
  go_loopw [8] (fun i wr => ∃ k : Nat, k ≤ xs.length ∧ i = .int .i64 k ∧ (∀ y ∈ xs.take k, p y = false) ∧ Below w.heap.size w wr) (fun i _ => xs.length - (intOf i).toNat)
  case atStart => exact ⟨0, Nat.zero_le _, rfl, by simp, Below.refl _ _⟩
  case round =>
    obtain ⟨k, hk, rfl, hno, hb⟩ := hrel
    have HN := Lib.hid hno
    have HB := Lib.hid hb
    clear hno hb
    by_cases hlt : k < xs.length
    · obtain ⟨x, hx⟩ := get_some hlt
      obtain ⟨b, o, rfl, _, hbs, hi, hc0, hc1⟩ := (hA.below HB.out).sym hx
      have HX := Lib.hid hx
      have HM := Lib.hid (List.mem_of_getElem? hx)
      clear hx
      have hk0 : (0 : Int) ≤ (k : Int) := by omega
      have hk1 : (k : Int) < (xs.length : Int) := by omega
      go_wp2_with fail
      refine (HC.out x _ HM.out HB.out).mono ?_
      rintro e w1 ⟨rfl, hb1⟩
      have HB1 := Lib.hid hb1
      clear hb1
      cases hp : p x
      · go_wp2
        go_roundw
        case rel => exact ⟨k + 1, by omega, by go_num, by
          rw [take_snoc HX.out]
          intro y hy
          rcases List.mem_append.1 hy with h | h
          · exact HN.out y h
          · simp at h; subst h; exact hp, bthen HB.out HB1.out HB.out.size⟩
        case measure => simp [intOf]; omega
      · have E0 := Lib.hid (idxI_hit HX.out hp HN.out)
        clear hp
        go_wp2
        go_ret
        exact ⟨ret_int E0.out.symm, bthen HB.out HB1.out HB.out.size⟩
    · have E0 := Lib.hid (show idxI p xs = -1 from idxI_none (by have h := HN.out; rwa [List.take_of_length_le (by omega)] at h))
      go_wp2
      go_ret
      exact ⟨ret_int E0.out.symm, HB.out⟩

theorem contSym_any (A : Option Addr) (c : Nat) (xs : List Sym) (S : Nat → Prop) (w : World) (F : Nat) (cap : Value) (p : Sym → Bool) (hm : xs.length ≤ 9223372036854775807) (hA : Els w S xs A) (hgo : IsGo F)
    (hcall : ∀ (x : Sym) (W : World), x ∈ xs → Below w.heap.size w W → Calls Try.prog F #[.agg #[.bool x.term, .int .i64 x.n], cap] W fun e W' => e = .returned (.bool (p x)) ∧ Below W.heap.size W W') :
    Calls Try.prog 33 #[.slice A xs.length c, .func (.func F) #[] #[cap]] w fun e w' => e = .returned (.bool (xs.any p)) ∧ Below w.heap.size w w' := by
  have HC := Lib.hid hcall
  have HG := Lib.hid hgo
  have HA := Lib.hid hA
  clear hcall hgo hA
  go_enter Try.func33, Try.ntmps33
  go_wp2_with fail
  refine (idxSym_any A c xs S w F cap p hm HA.out HG.out HC.out).mono ?_
  rintro e w1 ⟨rfl, hb1⟩
  go_wp2
  go_ret
  exact ⟨ret_bool (idxI_nonneg p xs), hb1⟩

theorem contSym_n (A : Option Addr) (n c : Nat) (xs : List Sym) (hn : n = xs.length) (S : Nat → Prop) (w : World) (F : Nat) (cap : Value) (p : Sym → Bool) (hm : xs.length ≤ 9223372036854775807) (hA : Els w S xs A) (hgo : IsGo F)
    (hcall : ∀ (x : Sym) (W : World), x ∈ xs → Below w.heap.size w W → Calls Try.prog F #[.agg #[.bool x.term, .int .i64 x.n], cap] W fun e W' => e = .returned (.bool (p x)) ∧ Below W.heap.size W W') :
    Calls Try.prog 33 #[.slice A n c, .func (.func F) #[] #[cap]] w fun e w' => e = .returned (.bool (xs.any p)) ∧ Below w.heap.size w w' := by
  subst hn; exact contSym_any A c xs S w F cap p hm hA hgo hcall
end Go.Proofs.Ytecofoilghdedaa

/- Contracts: slices.IndexFunc and slices.ContainsFunc at rules, at whatever predicate. -/
namespace Go.Proofs.Ytecofoilghdedaa
open Go.RowKit
set_option linter.unusedVariables false

set_option maxRecDepth 100000 in
theorem idxRule_any (A : Option Addr) (c : Nat) (xs : List Rule) (S : Nat → Prop) (w : World) (F : Nat) (cap : Value) (p : Rule → Bool) (hm : xs.length ≤ 9223372036854775807) (hA : Els w S xs A) (hgo : IsGo F)
    (hcall : ∀ (x : Rule) (W : World), x ∈ xs → Below w.heap.size w W → ∀ (A' : Option Addr) (c' : Nat), x.right.length ≤ c' → c' ≤ 9223372036854775807 → Els W S x.right A' → Calls Try.prog F #[.agg #[.int .i64 x.left, .slice A' x.right.length c'], cap] W fun e W' => e = .returned (.bool (p x)) ∧ Below W.heap.size W W') :
    Calls Try.prog 58 #[.slice A xs.length c, .func (.func F) #[] #[cap]] w fun e w' => e = .returned (.int .i64 (idxI p xs)) ∧ Below w.heap.size w w' := by
  have HC := Lib.hid hcall
  have hgo' : ∀ (args : Array Value) (W : World), (callFunc F args).run Try.prog W = .ok (.enter F args) W := hgo
  clear hcall hgo
  go_enter Try.func58, Try.ntmps58
  go_wp2
  go_loopw [8] (fun i wr => ∃ k : Nat, k ≤ xs.length ∧ i = .int .i64 k ∧ (∀ y ∈ xs.take k, p y = false) ∧ Below w.heap.size w wr) (fun i _ => xs.length - (intOf i).toNat)
  case atStart => exact ⟨0, Nat.zero_le _, rfl, by simp, Below.refl _ _⟩
  case round =>
    obtain ⟨k, hk, rfl, hno, hb⟩ := hrel
    have HN := Lib.hid hno
    have HB := Lib.hid hb
    clear hno hb
    by_cases hlt : k < xs.length
    · obtain ⟨x, hx⟩ := get_some hlt
      obtain ⟨b, o, A1, c1, rfl, _, hbs, hi, hl1, hl2, hE1, hc0, hc1⟩ := (hA.below HB.out).rule hx
      have HE1 := Lib.hid hE1
      clear hE1
      have HX := Lib.hid hx
      have HM := Lib.hid (List.mem_of_getElem? hx)
      clear hx
      have hk0 : (0 : Int) ≤ (k : Int) := by omega
      have hk1 : (k : Int) < (xs.length : Int) := by omega
      go_wp2_with fail
      refine (HC.out x _ HM.out HB.out A1 c1 hl1 hl2 HE1.out).mono ?_
      rintro e w1 ⟨rfl, hb1⟩
      have HB1 := Lib.hid hb1
      clear hb1
      cases hp : p x
      · go_wp2
        go_roundw
        case rel => exact ⟨k + 1, by omega, by go_num, by
          rw [take_snoc HX.out]
          intro y hy
          rcases List.mem_append.1 hy with h | h
          · exact HN.out y h
          · simp at h; subst h; exact hp, bthen HB.out HB1.out HB.out.size⟩
        case measure => simp [intOf]; omega
      · have E0 := Lib.hid (idxI_hit HX.out hp HN.out)
        clear hp
        go_wp2
        go_ret
        exact ⟨ret_int E0.out.symm, bthen HB.out HB1.out HB.out.size⟩
    · have E0 := Lib.hid (show idxI p xs = -1 from idxI_none (by have h := HN.out; rwa [List.take_of_length_le (by omega)] at h))
      go_wp2
      go_ret
      exact ⟨ret_int E0.out.symm, HB.out⟩

theorem contRule_any (A : Option Addr) (c : Nat) (xs : List Rule) (S : Nat → Prop) (w : World) (F : Nat) (cap : Value) (p : Rule → Bool) (hm : xs.length ≤ 9223372036854775807) (hA : Els w S xs A) (hgo : IsGo F)
    (hcall : ∀ (x : Rule) (W : World), x ∈ xs → Below w.heap.size w W → ∀ (A' : Option Addr) (c' : Nat), x.right.length ≤ c' → c' ≤ 9223372036854775807 → Els W S x.right A' → Calls Try.prog F #[.agg #[.int .i64 x.left, .slice A' x.right.length c'], cap] W fun e W' => e = .returned (.bool (p x)) ∧ Below W.heap.size W W') :
    Calls Try.prog 36 #[.slice A xs.length c, .func (.func F) #[] #[cap]] w fun e w' => e = .returned (.bool (xs.any p)) ∧ Below w.heap.size w w' := by
  have HC := Lib.hid hcall
  have HG := Lib.hid hgo
  have HA := Lib.hid hA
  clear hcall hgo hA
  go_enter Try.func36, Try.ntmps36
  go_wp2_with fail
  refine (idxRule_any A c xs S w F cap p hm HA.out HG.out HC.out).mono ?_
  rintro e w1 ⟨rfl, hb1⟩
  go_wp2
  go_ret
  exact ⟨ret_bool (idxI_nonneg p xs), hb1⟩

theorem contRule_n (A : Option Addr) (n c : Nat) (xs : List Rule) (hn : n = xs.length) (S : Nat → Prop) (w : World) (F : Nat) (cap : Value) (p : Rule → Bool) (hm : xs.length ≤ 9223372036854775807) (hA : Els w S xs A) (hgo : IsGo F)
    (hcall : ∀ (x : Rule) (W : World), x ∈ xs → Below w.heap.size w W → ∀ (A' : Option Addr) (c' : Nat), x.right.length ≤ c' → c' ≤ 9223372036854775807 → Els W S x.right A' → Calls Try.prog F #[.agg #[.int .i64 x.left, .slice A' x.right.length c'], cap] W fun e W' => e = .returned (.bool (p x)) ∧ Below W.heap.size W W') :
    Calls Try.prog 36 #[.slice A n c, .func (.func F) #[] #[cap]] w fun e w' => e = .returned (.bool (xs.any p)) ∧ Below w.heap.size w w' := by
  subst hn; exact contRule_any A c xs S w F cap p hm hA hgo hcall
end Go.Proofs.Ytecofoilghdedaa

/- Contracts: slices.Grow of nil and slices.Concat, at symbols. -/
namespace Go.Proofs.Ytecofoilghdedaa
open Go.RowKit
set_option linter.unusedVariables false


def RoomSym (w0 : World) (n : Nat) (e : Ending) (w' : World) : Prop :=
  ∃ v, e = .returned v ∧ (∀ S, Own w' S w0.heap.size 63 v ([] : List Sym)) ∧ Below w0.heap.size w0 w'

set_option maxRecDepth 100000 in
theorem growSym_any (n : Nat) (w : World) (hn : n * 16 ≤ 140737488355328) :
    Calls Try.prog 76 #[.slice none 0 0, .int .i64 n] w (RoomSym w n) := by
  by_cases h0 : n = 0
  · subst h0
    go_enter Try.func76, Try.ntmps76
    go_wp2
    go_ret
    exact ⟨_, rfl, fun S => Own.nil _ _ _ _, Below.refl _ _⟩
  · have hp : (0 : Int) < (n : Int) := by omega
    obtain ⟨w', g, cap, hr, hg, hc1, hc2, hown, hb, hsz⟩ := run_room (ty := 59) (w := w) (k := .i64) elemSym Try.underlying3 n (by omega) (by omega) (by omega)
    subst hg
    have Hr := Lib.hid hr
    clear hr
    have hc3 : (0 : Int) ≤ (cap : Int) := by omega
    go_enter Try.func76, Try.ntmps76
    go_wp2_with (at_builtin; refine Lib.wpList_append_run _ rfl _ _ _ _ rfl _ _ rfl rfl _ _ Hr.out ?_)
    go_ret
    exact ⟨_, rfl, hown, hb⟩

set_option maxRecDepth 100000 in
set_option maxHeartbeats 400000 in
theorem concatSym_any (A : Option Addr) (c : Nat) (xss : List (List Sym)) (S : Nat → Prop) (w : World) (hl : xss.length ≤ 9223372036854775807) (hA : Els w S xss A) (hS : ∀ b, S b → b < w.heap.size) (htot0 : xss.flatten.length * 16 ≤ 140737488355328) :
    Calls Try.prog 71 #[.slice A xss.length c] w (RetOwn w S 63 xss.flatten) := by
  go_enter Try.func71, Try.ntmps71
  have HTot := Lib.hid htot0
  have htot := htot0
  clear htot0
  go_wp2
  go_loop [3, 11] (fun n i => ∃ k : Nat, k ≤ xss.length ∧ i = .int .i64 k ∧ n = .int .i64 ((xss.take k).flatten.length : Nat)) (fun _ i => xss.length - (intOf i).toNat)
  case atStart => exact ⟨0, Nat.zero_le _, rfl, rfl⟩
  case round =>
    obtain ⟨k, hk, rfl, rfl⟩ := hrel
    by_cases hlt : k < xss.length
    · obtain ⟨x, hx⟩ := get_some hlt
      obtain ⟨b, o, A', c', rfl, _, hbs, hxc, hcm, _, hcell⟩ := hA.list hx
      have hts := flat_take_snoc hx
      have hle := flat_take_le xss (k + 1)
      have hlen : (xss.take (k + 1)).flatten.length = (xss.take k).flatten.length + x.length := by rw [hts, List.length_append]
      rw [hlen] at hle
      have HL := Lib.hid hlen
      clear hts hlen hx
      generalize (xss.take k).flatten.length = m at *
      have hnn : ¬ ((m : Int) + (x.length : Int) < 0) := by omega
      go_wp2
      go_round
      case rel => exact ⟨k + 1, by omega, by go_num, by rw [HL.out]; go_num⟩
      case measure => simp [intOf]; omega
    · have hkx : k = xss.length := by omega
      subst hkx
      rw [List.take_length]
      have Hm := Lib.hid htot
      generalize xss.flatten.length = m at Hm ⊢
      clear htot
      go_wp2_with fail
      refine (growSym_any _ w Hm.out).mono ?_
      rintro e w1 ⟨v1, rfl, hown, hb1⟩
      have HO := Lib.hid (hown S)
      have HB := Lib.hid hb1
      clear hown hb1
      go_wp2
      go_loopw [6, 27] (fun v i wr => ∃ k : Nat, k ≤ xss.length ∧ i = .int .i64 k ∧ Own wr S w.heap.size 63 v (xss.take k).flatten ∧ Below w.heap.size w wr) (fun _ i _ => xss.length - (intOf i).toNat)
      case atStart => exact ⟨0, Nat.zero_le _, rfl, HO.out, HB.out⟩
      case round =>
        obtain ⟨k, hk, rfl, hown, hb⟩ := hrel
        have HO := Lib.hid hown
        have HB := Lib.hid hb
        clear hown hb
        by_cases hlt : k < xss.length
        · obtain ⟨x, hx⟩ := get_some hlt
          obtain ⟨b, o, A', c', rfl, _, hbs, hxc, hcm, hA', hcell⟩ := (hA.below HB.out).list hx
          have HA' := Lib.hid (hA'.own HO.out hS HB.out.size)
          have hts := flat_take_snoc hx
          have hle := flat_take_le xss (k + 1)
          rw [hts, List.length_append] at hle
          have htot := HTot.out
          have HT := Lib.hid hts
          clear hts hx hA'
          go_wp2_with (at_builtin; refine wpList_ownMany _ rfl _ _ elemSym rfl rfl HO.out x rfl rfl HA'.out (by omega) (by omega) HB.out.size ?_; intro v' w' hown' hg' _)
          have HO' := Lib.hid hown'
          have HG := Lib.hid hg'
          clear hown' hg'
          go_wp2
          go_roundw
          case rel => exact ⟨k + 1, by omega, by go_num, by rw [HT.out]; exact HO'.out, bgrown HB.out HG.out HO.out (Nat.le_refl _) HB.out.size⟩
          case measure => simp [intOf]; omega
        · have hkx : k = xss.length := by omega
          subst hkx
          go_wp2
          go_ret
          exact ⟨_, rfl, by have h := HO.out; rwa [List.take_length] at h, HB.out⟩

end Go.Proofs.Ytecofoilghdedaa

/- Contracts: slices.Index and slices.Contains at int. -/
namespace Go.Proofs.Ytecofoilghdedaa
open Go.RowKit
set_option linter.unusedVariables false

set_option maxRecDepth 100000 in
theorem indexInt_any (A : Option Addr) (c : Nat) (xs : List Int) (z : Int) (S : Nat → Prop) (w : World) (hm : xs.length ≤ 9223372036854775807) (hA : Els w S xs A) :
    Calls Try.prog 72 #[.slice A xs.length c, .int .i64 z] w fun e w' => e = .returned (.int .i64 (idxI (fun x => z == x) xs)) ∧ w = w' := by
  go_enter Try.func72, Try.ntmps72
  go_wp2
  go_loop [8] (fun i => ∃ k : Nat, k ≤ xs.length ∧ i = .int .i64 k ∧ (∀ y ∈ xs.take k, (z == y) = false)) (fun i => xs.length - (intOf i).toNat)
  case atStart => exact ⟨0, Nat.zero_le _, rfl, by simp⟩
  case round =>
    obtain ⟨k, hk, rfl, hno⟩ := hrel
    have HN := Lib.hid hno
    clear hno
    by_cases hlt : k < xs.length
    · obtain ⟨x, hx⟩ := get_some hlt
      obtain ⟨b, o, rfl, _, hbs, hi, hc0⟩ := hA.int hx
      have HX := Lib.hid hx
      clear hx
      have hk0 : (0 : Int) ≤ (k : Int) := by omega
      have hk1 : (k : Int) < (xs.length : Int) := by omega
      cases hp : (z == x)
      · go_wp2
        go_round
        case rel => exact ⟨k + 1, by omega, by go_num, by
          rw [take_snoc HX.out]
          intro y hy
          rcases List.mem_append.1 hy with h | h
          · exact HN.out y h
          · simp at h; subst h; exact hp⟩
        case measure => simp [intOf]; omega
      · have E0 := Lib.hid (idxI_hit (p := fun x => z == x) HX.out hp HN.out)
        go_wp2
        go_ret
        exact ⟨ret_int E0.out.symm, rfl⟩
    · have E0 := Lib.hid (show idxI (fun x => z == x) xs = -1 from idxI_none (by have h := HN.out; rwa [List.take_of_length_le (by omega)] at h))
      go_wp2
      go_ret
      exact ⟨ret_int E0.out.symm, rfl⟩

theorem any_eq_mem (xs : List Int) (z : Int) : xs.any (fun x => z == x) = decide (z ∈ xs) := by
  rw [Bool.eq_iff_iff]; simp [List.any_eq_true]
theorem containsInt_any (A : Option Addr) (n c : Nat) (xs : List Int) (z : Int) (S : Nat → Prop) (w : World) (hn : n = xs.length) (hm : xs.length ≤ 9223372036854775807) (hA : Els w S xs A) :
    Calls Try.prog 66 #[.slice A n c, .int .i64 z] w fun e w' => e = .returned (.bool (decide (z ∈ xs))) ∧ w = w' := by
  subst hn
  have HA := Lib.hid hA
  clear hA
  go_enter Try.func66, Try.ntmps66
  go_wp2_with fail
  refine (indexInt_any A c xs z S _ hm HA.out).mono ?_
  rintro e w1 ⟨rfl, rfl⟩
  go_wp2
  go_ret
  exact ⟨ret_bool ((idxI_nonneg _ _).trans (any_eq_mem xs z)), rfl⟩
end Go.Proofs.Ytecofoilghdedaa

/- gram.T and gram.N and their kin: a symbol is returned. -/
namespace Go.Proofs.Ytecofoilghdedaa
open Go.RowKit
set_option linter.unusedVariables false

theorem n_any (n : Int) (w : World) : Calls Try.prog 50 #[.int .i64 n] w fun e w' => e = .returned (.agg #[.bool false, .int .i64 n]) ∧ Below w.heap.size w w' := by
  go_enter Try.func50, Try.ntmps50
  go_wp2
  exact bodyPost_ret (v := .agg #[.bool false, .int .i64 n]) (by simp [results, Try.results50, go_sem]) rfl ⟨rfl, (Below.refl _ _).alloc (Nat.le_refl _) _⟩
end Go.Proofs.Ytecofoilghdedaa

/- Contract: slices.Equal at ints. -/
namespace Go.Proofs.Ytecofoilghdedaa
open Go.RowKit
set_option linter.unusedVariables false

set_option maxRecDepth 100000 in
set_option maxHeartbeats 1000000 in
theorem equalInt_any (A A' : Option Addr) (xs ys : List Int) (n n' c c' : Nat) (S S' : Nat → Prop) (w : World) (hn : n = xs.length) (hn' : n' = ys.length) (hm : xs.length ≤ 9223372036854775807) (hm' : ys.length ≤ 9223372036854775807) (hA : Els w S xs A) (hA' : Els w S' ys A') :
    Calls Try.prog 15 #[.slice A n c, .slice A' n' c'] w fun e w' => e = .returned (.bool (decide (xs = ys))) ∧ Below w.heap.size w w' := by
  subst hn; subst hn'
  by_cases hl : xs.length = ys.length
  · have hl' : ((xs.length : Int) != (ys.length : Int)) = false := by simp; omega
    have HL := Lib.hid hl
    clear hl
    go_enter Try.func15, Try.ntmps15
    go_wp2
    go_loopw [13] (fun i wr => ∃ k : Nat, k ≤ xs.length ∧ i = .int .i64 k ∧ Hid (xs.take k = ys.take k) ∧ Below w.heap.size w wr) (fun i _ => xs.length - (intOf i).toNat)
    case atStart => exact ⟨0, Nat.zero_le _, rfl, Lib.hid rfl, Below.refl _ _⟩
    case round =>
      obtain ⟨wo, hwo⟩ : ∃ wo : World, wo = wr := ⟨_, rfl⟩
      subst hwo
      obtain ⟨k, hk, rfl, HT, hb⟩ := hrel
      have HB := Lib.hid hb
      clear hb
      by_cases hlt : k < xs.length
      · have hlt' : k < ys.length := by have := HL.out; omega
        have hk1 : (k : Int) < (xs.length : Int) := by omega
        have hk2 : (k : Int) < (ys.length : Int) := by omega
        obtain ⟨x, hx⟩ := get_some hlt
        obtain ⟨y, hy⟩ := get_some hlt'
        obtain ⟨b, o, rfl, _, hbs, hi, hc0⟩ := (hA.below HB.out).int hx
        obtain ⟨b', o', rfl, _, hbs', hi', hc0'⟩ := (hA'.below HB.out).int hy
        have HX := Lib.hid (And.intro hx hy)
        have hk0 : (0 : Int) ≤ (k : Int) := by omega
        clear hx hy
        by_cases he : x = y
        · have HE := Lib.hid (take_eq HX.out.1 HX.out.2 he HT.out)
          have hq : (x != y) = false := by simp [he]
          clear he
          go_wp2_with fail
          go_quiet (fail)
          go_wp2
          go_roundw
          case rel => exact ⟨k + 1, hlt, by go_num, HE, bdrewN HB.out⟩
          case measure => simp [intOf]; omega
        · have HE := Lib.hid (take_ne HX.out.1 HX.out.2 he)
          have hq : (x != y) = true := by simp [he]
          clear he
          go_wp2_with fail
          go_quiet (fail)
          go_wp2
          go_ret
          exact ⟨ret_bool (by simp [HE.out]), bdrewN HB.out⟩
      · have HE := Lib.hid (take_all HL.out (by omega) HT.out)
        go_wp2
        go_ret
        exact ⟨ret_bool (by simp [HE.out]), HB.out⟩
  · have hl' : ((xs.length : Int) != (ys.length : Int)) = true := by simp; omega
    have HE : Hid (xs ≠ ys) := Lib.hid (by rintro rfl; exact hl rfl)
    clear hl
    go_enter Try.func15, Try.ntmps15
    go_wp2
    go_ret
    exact ⟨ret_bool (by simp [HE.out]), Below.refl _ _⟩

end Go.Proofs.Ytecofoilghdedaa

