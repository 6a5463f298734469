/- Contract: strconv.Itoa of one digit; parlref2.key of a rule whose numbers have one digit. -/
import Derived.Test.YtagcnhiinmiklaaDoorQp1
import Derived.Laws.Concat
namespace Go.Proofs.YtagcnhiinmiklaaDoor
open Go.RowKit
set_option linter.unusedVariables false

/-- One digit, as a string. -/
def digS (n : Nat) : ByteArray := ⟨#[UInt8.ofNat (48 + n)]⟩
set_option maxRecDepth 100000 in
set_option maxHeartbeats 4000000 in
theorem itoa_small (n : Nat) (hn : n < 10) (w : World) : Calls Tryd.prog 32 #[.int .i64 (n : Int)] w fun e w' => e = .returned (.string (digS n)) ∧ w = w' := by
  have h : n = 0 ∨ n = 1 ∨ n = 2 ∨ n = 3 ∨ n = 4 ∨ n = 5 ∨ n = 6 ∨ n = 7 ∨ n = 8 ∨ n = 9 := by omega
  rcases h with rfl | rfl | rfl | rfl | rfl | rfl | rfl | rfl | rfl | rfl
  all_goals
    go_enter Tryd.func32, Tryd.ntmps32
    go_wp2
    go_ret
    exact ⟨rfl, rfl⟩

/-- One part's letters, behind what was written. -/
def keyS (out : ByteArray) (s : Sym) : ByteArray := (if s.term then out ++ ⟨#[116]⟩ else out) ++ (digS s.n.toNat ++ ⟨#[44]⟩)
def keyR (r : Rule) : ByteArray := r.right.foldl keyS (digS r.left.toNat ++ ⟨#[58]⟩)

theorem keyF_size : ∀ (ss : List Sym) (out : ByteArray), (ss.foldl keyS out).size ≤ out.size + 3 * ss.length
  | [], out => by simp
  | s :: ss, out => by
    have h := keyF_size ss (keyS out s)
    have h2 : (keyS out s).size ≤ out.size + 3 := by
      unfold keyS
      have e : (digS s.n.toNat ++ ⟨#[44]⟩ : ByteArray).size = 2 := by rw [ByteArray.size_append]; rfl
      cases s.term
      · simp only [Bool.false_eq_true, if_false]; rw [ByteArray.size_append, e]; omega
      · simp only [if_true]; rw [ByteArray.size_append, ByteArray.size_append, e]; show out.size + 1 + 2 ≤ _; omega
    rw [List.foldl_cons, List.length_cons]
    omega
theorem run_cat {P : Program} (a b : ByteArray) (h : a.size + b.size ≤ 9223372036854775807) (W : World) : (Op.stringOp .add a b).run P W = .ok (.string (a ++ b)) W := run_string_add_sum W a b h
theorem digS_size (n : Nat) : (digS n).size = 1 := rfl

set_option maxRecDepth 100000 in
set_option maxHeartbeats 1000000 in
theorem key_any (r : Rule) (A : Option Addr) (c : Nat) (S : Nat → Prop) (w : World) (h0 : 0 ≤ r.left ∧ r.left < 10) (hr : ∀ s ∈ r.right, 0 ≤ s.n ∧ s.n < 10) (hl : r.right.length ≤ 4) (hlc : r.right.length ≤ c) (hc : c ≤ 9223372036854775807) (hA : Els w S r.right A) :
    Calls Tryd.prog 17 #[.agg #[.int .i64 r.left, .slice A r.right.length c]] w fun e w' => e = .returned (.string (keyR r)) ∧ Below w.heap.size w w' := by
  obtain ⟨l, right⟩ := r
  dsimp only at *
  obtain ⟨l0, rfl⟩ : ∃ l0 : Nat, l = (l0 : Int) := ⟨l.toNat, by omega⟩
  have hba : Below w.heap.size w (w.alloc (.cells #[.int .i64 (l0 : Int), .slice A right.length c] 49)) := (Below.refl _ _).alloc (Nat.le_refl _) _
  have HBa := Lib.hid hba
  have HA := Lib.hid (hA.below hba)
  have HR := Lib.hid hr
  have hl10 : l0 < 10 := by omega
  clear hba hA hr
  go_enter Tryd.func17, Tryd.ntmps17
  go_wp2_with fail
  refine (itoa_small l0 hl10 _).mono ?_
  rintro e w1 ⟨rfl, rfl⟩
  go_wp2_with fail
  go_loopw [3, 13] (fun o i wr => ∃ m : Nat, m ≤ right.length ∧ i = .int .i64 m ∧ o = .string ((right.take m).foldl keyS (digS l0 ++ ⟨#[58]⟩)) ∧ Below (w.alloc (.cells #[.int .i64 (l0 : Int), .slice A right.length c] 49)).heap.size (w.alloc (.cells #[.int .i64 (l0 : Int), .slice A right.length c] 49)) wr) (fun _ i _ => right.length - (intOf i).toNat)
  case atStart => exact ⟨0, Nat.zero_le _, rfl, rfl, Below.refl _ _⟩
  case round =>
    obtain ⟨wo, hwo⟩ : ∃ wo : World, wo = wr := ⟨_, rfl⟩
    subst hwo
    obtain ⟨m, hm, rfl, rfl, hb⟩ := hrel
    have HB := Lib.hid hb
    clear hb
    by_cases hlt : m < right.length
    · obtain ⟨s, hs⟩ := get_some hlt
      have HBn : Hid (∀ o : Obj, Below (w.alloc (.cells #[.int .i64 (l0 : Int), .slice A right.length c] 49)).heap.size (w.alloc (.cells #[.int .i64 (l0 : Int), .slice A right.length c] 49)) (wo.alloc o)) := Lib.hid (fun o => HB.out.alloc (HB.out.size) o)
      obtain ⟨b, o, rfl, _, hbs, hi, hc0, hc1⟩ := (HA.out.below HB.out).sym hs
      have HT := Lib.hid (show (right.take (m + 1)).foldl keyS (digS l0 ++ ⟨#[58]⟩) = keyS ((right.take m).foldl keyS (digS l0 ++ ⟨#[58]⟩)) s by rw [take_snoc hs, List.foldl_append]; rfl)
      have hsr := HR.out s (List.mem_of_getElem? hs)
      obtain ⟨st, sn⟩ := s
      dsimp only at hi hc0 hc1 hsr
      obtain ⟨s0, rfl⟩ : ∃ s0 : Nat, sn = (s0 : Int) := ⟨sn.toNat, by omega⟩
      have hs10 : s0 < 10 := by omega
      have hm0 : (0 : Int) ≤ (m : Int) := by omega
      have hos := keyF_size (right.take m) (digS l0 ++ ⟨#[58]⟩)
      have hos2 : (digS l0 ++ ⟨#[58]⟩ : ByteArray).size = 2 := by rw [ByteArray.size_append]; rfl
      rw [hos2, List.length_take] at hos
      generalize (right.take m).foldl keyS (digS l0 ++ ⟨#[58]⟩) = out at *
      have hos3 : out.size ≤ 100 := by omega
      have e0 : ∀ W, (Op.stringOp .add (digS s0) ⟨#[44]⟩).run Tryd.prog W = .ok (.string (digS s0 ++ ⟨#[44]⟩)) W := run_cat _ _ (by show 1 + 1 ≤ _; omega)
      have e1 : ∀ W, (Op.stringOp .add out ⟨#[116]⟩).run Tryd.prog W = .ok (.string (out ++ ⟨#[116]⟩)) W := run_cat _ _ (by show out.size + 1 ≤ _; omega)
      have e2 : ∀ W, (Op.stringOp .add out (digS s0 ++ ⟨#[44]⟩)).run Tryd.prog W = .ok (.string (out ++ (digS s0 ++ ⟨#[44]⟩))) W := run_cat _ _ (by rw [ByteArray.size_append]; show out.size + (1 + 1) ≤ _; omega)
      have e3 : ∀ W, (Op.stringOp .add (out ++ ⟨#[116]⟩) (digS s0 ++ ⟨#[44]⟩)).run Tryd.prog W = .ok (.string (out ++ ⟨#[116]⟩ ++ (digS s0 ++ ⟨#[44]⟩))) W := run_cat _ _ (by
        have h1 : (out ++ ⟨#[116]⟩ : ByteArray).size = out.size + 1 := by rw [ByteArray.size_append]; rfl
        have h2 : (digS s0 ++ ⟨#[44]⟩ : ByteArray).size = 2 := by rw [ByteArray.size_append]; rfl
        rw [h1, h2]; omega)
      clear hs hsr hos hos2
      cases st
      · go_wp2_with fail
        refine (itoa_small s0 hs10 _).mono ?_
        rintro e w1 ⟨rfl, rfl⟩
        go_wp2
        go_roundw
        case rel => exact ⟨m + 1, hlt, by go_num, by rw [HT.out]; rfl, HBn.out _⟩
        case measure => simp [intOf]; omega
      · go_wp2_with fail
        refine (itoa_small s0 hs10 _).mono ?_
        rintro e w1 ⟨rfl, rfl⟩
        go_wp2
        go_roundw
        case rel => exact ⟨m + 1, hlt, by go_num, by rw [HT.out]; rfl, HBn.out _⟩
        case measure => simp [intOf]; omega
    · have HT := Lib.hid (show (right.take m).foldl keyS (digS l0 ++ ⟨#[58]⟩) = keyR ⟨(l0 : Int), right⟩ by rw [List.take_of_length_le (by omega)]; rfl)
      generalize (right.take m).foldl keyS (digS l0 ++ ⟨#[58]⟩) = out at *
      go_wp2
      go_ret
      exact ⟨by rw [HT.out]; rfl, HBa.out.trans (HB.out.mono (by simp))⟩

/-! The key tells rules apart. -/
def keyL (out : List UInt8) (s : Sym) : List UInt8 := (if s.term then out ++ [116] else out) ++ [UInt8.ofNat (48 + s.n.toNat), 44]
def partL (s : Sym) : List UInt8 := (if s.term then [116] else []) ++ [UInt8.ofNat (48 + s.n.toNat), 44]
theorem keyS_toList (out : ByteArray) (s : Sym) : (keyS out s).data.toList = out.data.toList ++ partL s := by
  unfold keyS partL digS
  cases s.term <;> simp
theorem keyF_toList : ∀ (ss : List Sym) (out : ByteArray), (ss.foldl keyS out).data.toList = out.data.toList ++ (ss.map partL).flatten
  | [], out => by simp
  | s :: ss, out => by rw [List.foldl_cons, keyF_toList ss, keyS_toList]; simp
theorem keyR_toList (r : Rule) : (keyR r).data.toList = UInt8.ofNat (48 + r.left.toNat) :: 58 :: (r.right.map partL).flatten := by
  unfold keyR
  rw [keyF_toList]
  simp [digS]
theorem dig_inj {a b : Nat} (ha : a < 10) (hb : b < 10) (h : UInt8.ofNat (48 + a) = UInt8.ofNat (48 + b)) : a = b := by
  have h2 := congrArg UInt8.toNat h
  simp at h2
  omega
theorem dig_ne {a : Nat} (ha : a < 10) : UInt8.ofNat (48 + a) ≠ 116 := by
  intro h
  have h2 := congrArg UInt8.toNat h
  simp at h2
  omega
theorem parts_inj : ∀ (xs ys : List Sym), (∀ s ∈ xs, 0 ≤ s.n ∧ s.n < 10) → (∀ s ∈ ys, 0 ≤ s.n ∧ s.n < 10) → (xs.map partL).flatten = (ys.map partL).flatten → xs = ys
  | [], [], _, _, _ => rfl
  | [], y :: ys, _, _, h => by cases hy : y.term <;> simp [partL, hy] at h
  | x :: xs, [], _, _, h => by cases hx : x.term <;> simp [partL, hx] at h
  | x :: xs, y :: ys, hx, hy, h => by
    obtain ⟨xt, xn⟩ := x
    obtain ⟨yt, yn⟩ := y
    have hx1 := hx ⟨xt, xn⟩ (by simp)
    have hy1 := hy ⟨yt, yn⟩ (by simp)
    dsimp only at hx1 hy1
    have ih := fun h => parts_inj xs ys (fun s hs => hx s (by simp [hs])) (fun s hs => hy s (by simp [hs])) h
    cases xt <;> cases yt <;> simp only [partL, Bool.false_eq_true, if_false, if_true, List.nil_append, List.cons_append, List.map_cons, List.flatten_cons, List.cons.injEq, true_and] at h
    · have := dig_inj (a := xn.toNat) (b := yn.toNat) (by omega) (by omega) h.1
      rw [ih h.2, show xn = yn from by omega]
    · exact absurd h.1 (dig_ne (a := xn.toNat) (by omega))
    · exact absurd h.1.symm (dig_ne (a := yn.toNat) (by omega))
    · have := dig_inj (a := xn.toNat) (b := yn.toNat) (by omega) (by omega) h.1
      rw [ih h.2, show xn = yn from by omega]
theorem key_inj {p q : Rule} (hp : 0 ≤ p.left ∧ p.left < 10 ∧ ∀ s ∈ p.right, 0 ≤ s.n ∧ s.n < 10) (hq : 0 ≤ q.left ∧ q.left < 10 ∧ ∀ s ∈ q.right, 0 ≤ s.n ∧ s.n < 10) (h : (keyR p).data.toList = (keyR q).data.toList) : p = q := by
  rw [keyR_toList, keyR_toList] at h
  injection h with h1 h2
  injection h2 with _ h2
  have h3 := dig_inj (a := p.left.toNat) (b := q.left.toNat) (by omega) (by omega) h1
  have h4 := parts_inj _ _ hp.2.2 hq.2.2 h2
  obtain ⟨pl, pr⟩ := p
  obtain ⟨ql, qr⟩ := q
  dsimp only at *
  rw [h4, show pl = ql from by omega]
end Go.Proofs.YtagcnhiinmiklaaDoor
