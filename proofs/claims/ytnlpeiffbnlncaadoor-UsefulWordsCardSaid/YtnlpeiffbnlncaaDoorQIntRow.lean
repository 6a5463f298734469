/- Rows of ints that are known whole; contract: slices.Repeat of a row of one int. -/
import Derived.Test.YtnlpeiffbnlncaaDoorQp2
import Derived.Test.YtnlpeiffbnlncaaDoorQp1
import Derived.StillTailTactics
import Derived.Laws.CopyOwn
import Derived.Deep.OwnRows
import Derived.IntWalk
namespace Go.Proofs.YtnlpeiffbnlncaaDoor
open Go.RowKit
set_option linter.unusedVariables false

set_option maxRecDepth 100000 in
set_option maxHeartbeats 1000000 in
theorem mul64_one (n : Nat) (hn : n ≤ 10) (w : World) : Calls Tryd.prog 128 #[.int .u64 1, .int .u64 (n : Int)] w fun e w' => e = .returned (.tuple #[.int .u64 0, .int .u64 (n : Int)]) ∧ w = w' := by
  have h : n = 0 ∨ n = 1 ∨ n = 2 ∨ n = 3 ∨ n = 4 ∨ n = 5 ∨ n = 6 ∨ n = 7 ∨ n = 8 ∨ n = 9 ∨ n = 10 := by omega
  rcases h with rfl | rfl | rfl | rfl | rfl | rfl | rfl | rfl | rfl | rfl | rfl
  all_goals
    go_enter Tryd.func128, Tryd.ntmps128
    go_wp2
    go_ret2
    exact ⟨rfl, rfl⟩
set_option maxRecDepth 100000 in
set_option maxHeartbeats 1000000 in
theorem mul_one (n : Nat) (hn : n ≤ 10) (w : World) : Calls Tryd.prog 111 #[.int .u64 1, .int .u64 (n : Int)] w fun e w' => e = .returned (.tuple #[.int .u64 0, .int .u64 (n : Int)]) ∧ w = w' := by
  go_enter Tryd.func111, Tryd.ntmps111
  go_wp2_with fail
  refine (mul64_one n hn _).mono ?_
  rintro e w' ⟨rfl, rfl⟩
  go_wp2
  go_ret2
  exact ⟨rfl, rfl⟩

/-- k times -1, then zeros. -/
def rl (n k : Nat) : List Int := List.replicate k (-1) ++ List.replicate (n - k) 0
def ivals (l : List Int) : List Value := l.map fun x => Value.int .i64 x
theorem icells_vals (l : List Int) : icells l = (ivals l).toArray := rfl
theorem rl_splice (n k m : Nat) (h : k + m ≤ n) : splice (ivals (rl n k)) k (ivals (List.replicate m (-1))) = ivals (rl n (k + m)) := by
  unfold splice rl ivals
  simp only [List.map_append, List.map_replicate, List.length_replicate]
  rw [List.take_append_of_le_length (by simp), List.take_of_length_le (by simp), List.drop_append, List.drop_of_length_le (by simp)]
  simp only [List.length_replicate, List.nil_append, List.drop_replicate]
  rw [show n - k - (k + m - k) = n - (k + m) from by omega, ← List.append_assoc, List.replicate_append_replicate]
theorem rl_full (n : Nat) : rl n n = List.replicate n (-1) := by simp [rl]
theorem rl_zero (n : Nat) : rl n 0 = List.replicate n 0 := by simp [rl]
def RepL (n g : Nat) (w : World) (i : Value) (wr : World) : Prop :=
  ∃ k : Nat, 1 ≤ k ∧ k ≤ n ∧ i = .int .i64 k ∧ Blk' wr g 3 (icells (rl n k)) ∧ Below w.heap.size w wr

set_option maxRecDepth 100000 in
set_option maxHeartbeats 1000000 in
theorem repeat_any (b o n : Nat) (w : World) (h1 : 1 ≤ n) (hn : n ≤ 10) (hc : w.cell? ⟨b, o, none⟩ = some (.int .i64 (-1))) :
    Calls Tryd.prog 83 #[.slice (some ⟨b, o, none⟩) 1 1, .int .i64 (n : Int)] w fun e w' =>
      ∃ g, e = .returned (.slice (some ⟨g, 0, none⟩) n n) ∧ Blk' w' g 3 (icells (List.replicate n (-1))) ∧ w.heap.size ≤ g ∧ Below w.heap.size w w' := by
  have hmk := mkInts n (by omega)
  have hn0 : (0 : Int) ≤ (n : Int) := by omega
  have hn1 : (n : Int) ≤ 10 := by omega
  have hbl : b < w.heap.size := World.block_lt_of_cell? w _ hc
  go_enter Tryd.func83, Tryd.ntmps83
  go_wp2_with fail
  refine (mul_one n hn _).mono ?_
  rintro e w' ⟨rfl, rfl⟩
  have hub := Tryd.underlying22
  have hsz : (Tryd.prog.info? 3).map (·.size) = some 1 := by kernel_rfl
  have HN := Lib.hid (Blk'.new w 3 (icells (List.replicate n 0)))
  have HS := Lib.hid (And.intro hub hsz)
  have HC := Lib.hid hc
  have HSp := Lib.hid (rl_splice n)
  clear hub hsz
  have HC2 : Hid (∀ (j : Nat) (v : Value), [Value.int .i64 (-1)][j]? = some v → (w.alloc (.cells (icells (List.replicate n 0)) 3)).cell? ((⟨b, o, none⟩ : Addr).add j) = some v) := Lib.hid (by
    intro j v hj
    match j, hj with
    | 0, hj =>
      simp at hj; subst hj
      have h := ((Below.refl w.heap.size w).alloc (Nat.le_refl _) (.cells (icells (List.replicate n 0)) 3)).cell (p := ⟨b, o, none⟩) hbl
      simpa [Addr.add] using h.trans HC.out)
  have HN0 : Hid ((w.alloc (.cells (icells (List.replicate n 0)) 3)).heap[w.heap.size]? = some (.cells (ivals (rl n 0)).toArray 3 (0, 0))) := Lib.hid (by rw [rl_zero]; exact HN.out)
  have HL : Hid ([Value.int .i64 (-1)].length = Nat.min 1 n) := Lib.hid (by show 1 = min 1 n; omega)
  have HF : Hid (0 + [Value.int .i64 (-1)].length ≤ (ivals (rl n 0)).length) := Lib.hid (by simp [ivals, rl]; omega)
  have H1c : Hid (∀ v ∈ [Value.int .i64 (-1)], v.oneCell' = true) := Lib.hid (by intro v hv; simp at hv; subst hv; rfl)
  have HB0 := Lib.hid ((Below.refl w.heap.size w).alloc (Nat.le_refl _) (.cells (icells (List.replicate n 0)) 3))
  go_wp2_with (refine wpList_copy_splice (o := ⟨some 33, _, _, _, _, _⟩) rfl _ _ 22 22 rfl 3 HS.out.1 HS.out.2 _ _ _ _ _ _ rfl rfl w.heap.size 0 (ivals (rl n 0)) 3 HN0.out [.int .i64 (-1)] HL.out (fun _ => ⟨rfl, _, rfl, HC2.out⟩) HF.out H1c.out w.heap.size w HB0.out (Nat.le_refl _) ?_; intro w2 hg2 hb2; have H2 := Lib.hid (And.intro hg2.out hb2); clear hg2 hb2)
  have HZ : Hid (splice (ivals (rl n 0)) 0 [Value.int .i64 (-1)] = ivals (rl n 1)) := Lib.hid (by have h := HSp.out 0 1 h1; simpa [ivals] using h)
  have HR : Hid (RepL n w.heap.size w (.int .i64 ((1 : Nat) : Int)) w2) := Lib.hid ⟨1, Nat.le_refl _, h1, rfl, by have h := H2.out.1; rw [HZ.out] at h; exact h, H2.out.2⟩
  have hc1 : w.cell? ⟨b, o, none⟩ = some (.int .i64 (-1)) := HC.out
  clear hc hc1 HN HN0 HC2 HB0 H2
  go_loopw [8] (fun i wr => RepL n w.heap.size w i wr) (fun i _ => n - (intOf i).toNat)
  case atStart => exact HR.out
  case round =>
    obtain ⟨wo, hwo⟩ : ∃ wo : World, wo = wr := ⟨_, rfl⟩
    subst hwo
    obtain ⟨k, hk1, hk2, rfl, hB, hb⟩ := hrel
    have HBk := Lib.hid hB
    have HBl := Lib.hid hb
    have hz := hb.size
    clear hB hb HR
    by_cases hlt : k < n
    · have hkn : (k : Int) < (n : Int) := by omega
      have hk0 : (0 : Int) ≤ (k : Int) := by omega
      have hmin : min k (n - k) ≤ k ∧ min k (n - k) ≤ n - k ∧ 1 ≤ min k (n - k) := by omega
      obtain ⟨m, hm⟩ : ∃ m, m = min k (n - k) := ⟨_, rfl⟩
      rw [← hm] at hmin
      obtain ⟨X, hX⟩ : ∃ X, X = ivals (List.replicate m (-1)) := ⟨_, rfl⟩
      have HXl : Hid (X.length = Nat.min k (n - k)) := Lib.hid (by rw [hX]; simp only [ivals, List.length_map, List.length_replicate]; exact hm)
      have HXm : Hid (X.length = m) := Lib.hid (by rw [hX]; simp [ivals])
      have HXs : Hid (∀ (j : Nat) (v : Value), X[j]? = some v → wo.drew.cell? ((⟨w.heap.size, 0, none⟩ : Addr).add j) = some v) := Lib.hid (by
        intro j v hj
        have e : (⟨w.heap.size, 0, none⟩ : Addr).add j = ⟨w.heap.size, j, none⟩ := by unfold Addr.add; split <;> simp_all
        rw [e]
        have hjl : j < m := by have := (List.getElem?_eq_some_iff.1 hj).1; rw [HXm.out] at this; exact this
        have h2 := HBk.out.drew.cell j
        rw [hX] at hj
        simp only [ivals, List.getElem?_map, List.getElem?_replicate, if_pos hjl, Option.map_some] at hj
        rw [h2, ← hj]
        exact icells_get (by simp only [rl]; rw [List.getElem?_append_left (by simp; omega), List.getElem?_replicate, if_pos (by omega)]))
      have HXf : Hid (k + X.length ≤ (ivals (rl n k)).length) := Lib.hid (by rw [HXm.out]; simp [ivals, rl]; omega)
      have HX1 : Hid (∀ v ∈ X, v.oneCell' = true) := Lib.hid (by intro v hv; rw [hX] at hv; simp [ivals] at hv; rw [hv.2]; rfl)
      have HB0 : Hid (wo.drew.heap[w.heap.size]? = some (.cells (ivals (rl n k)).toArray 3 (0, 0))) := Lib.hid HBk.out
      have HBd : Hid (Below w.heap.size w wo.drew) := Lib.hid HBl.out.drew
      have HNx : Hid (splice (ivals (rl n k)) k X = ivals (rl n (k + m))) := Lib.hid (by rw [hX]; exact HSp.out k m (by omega))
      have hsum : IntKind.i64.wrap ((k : Int) + (m : Int)) = (k : Int) + (m : Int) := IntWalk.i64_in _ (by omega)
      obtain ⟨w2, hcp, hg2, hb2⟩ : ∃ w2, (Builtin.copy_ #[22, 22] 3 #[.slice (some ⟨w.heap.size, k, none⟩) (n - k) (n - k), .slice (some ⟨w.heap.size, 0, none⟩) k n]).run Tryd.prog wo.drew = .ok (.int .i64 (m : Int)) w2 ∧ Blk' w2 w.heap.size 3 (icells (rl n (k + m))) ∧ Below w.heap.size w w2 := by
        have hr := run_copy_row (P := Tryd.prog) (w := wo.drew) 22 22 3 3 w.heap.size k (n - k) (n - k) ⟨w.heap.size, 0, none⟩ k n (ivals (rl n k)).toArray 3 X HS.out.1 HS.out.2 HB0.out HXl.out HXs.out (by simpa using HXf.out) HX1.out
        refine ⟨_, by rw [hr, HXm.out]; rfl, ?_, below_setRow HBd.out (Nat.le_refl _) _⟩
        have h2 := setRow_heap wo.drew w.heap.size (ivals (rl n k)).toArray ((ivals (rl n k)).toArray.toList.take k ++ (X ++ (ivals (rl n k)).toArray.toList.drop (k + X.length))).toArray 3 (0, 0) HB0.out
        have h3 := HNx.out
        unfold splice at h3
        unfold Blk'
        rw [icells_vals, ← h3]
        simp only [List.append_assoc, HXm.out] at h2 ⊢
        exact h2
      have H2 := Lib.hid (And.intro hg2 hb2)
      clear hm hX hg2 hb2
      go_wp2_with fail
      go_region
      all_goals
        go_wp2
        go_roundw
        case rel => exact ⟨k + m, by omega, by omega, by go_num, H2.out.1, H2.out.2⟩
        case measure => simp [intOf]; omega
    · have hkn : k = n := by omega
      subst hkn
      go_wp2
      go_ret
      exact ⟨_, rfl, by have h := HBk.out; rw [rl_full] at h; exact h, Nat.le_refl _, HBl.out⟩
end Go.Proofs.YtnlpeiffbnlncaaDoor
