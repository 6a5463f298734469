/- Contract: leftrec.size: how many nodes a tree has. -/
import Derived.Test.YtecofoilghdedaaQp2
import Derived.Test.YtecofoilghdedaaQp1
import Derived.Deep.DeepCutAuto
import Derived.IntWalk
namespace Go.Proofs.Ytecofoilghdedaa
open Go.RowKit
set_option linter.unusedVariables false

theorem nodesL_take {ks : List Tree} {m : Nat} {k : Tree} (h : ks[m]? = some k) : nodesL (ks.take (m + 1)) = nodesL (ks.take m) + nodesT k := by
  rw [take_snoc h, nodesL_append]
  simp [nodesL]
theorem nodesL_take_le (ks : List Tree) : ∀ m, nodesL (ks.take m) ≤ nodesL ks := by
  induction ks with
  | nil => intro m; simp
  | cons k ks ih =>
    intro m
    cases m with
    | zero => simp [nodesL]
    | succ m => have := ih m; simp only [List.take_succ_cons, nodesL]; omega
set_option maxRecDepth 100000 in
set_option maxHeartbeats 4000000 in
theorem size_any : ∀ (N : Nat) (t : Tree), nodesT t ≤ N → nodesT t ≤ 1000000 → ∀ (w : World) (B : Option Addr) (d : Nat) (S : Nat → Prop), t.kids.length ≤ d → d ≤ 9223372036854775807 → Els w S t.kids B → (∀ b, S b → b < w.heap.size) →
    Calls Try.prog 28 #[.agg #[.int .i64 t.rule, .int .i64 t.term, .slice B t.kids.length d]] w fun e w' => e = .returned (.int .i64 (nodesT t : Nat)) ∧ Below w.heap.size w w' := by
  intro N
  induction N with
  | zero => intro t hn; obtain ⟨r, tt, ks⟩ := t; simp [nodesT] at hn
  | succ N ih =>
  intro t hn hM w B d S hld hd hB hS
  obtain ⟨r, tt, ks⟩ := t
  dsimp only [Tree.rule, Tree.term, Tree.kids] at hld hB ⊢
  have HIh := Lib.hid ih
  have HB := Lib.hid hB
  have HS := Lib.hid hS
  have hkl : ks.length ≤ nodesL ks := len_nodes ks
  have hnl : nodesT ⟨r, tt, ks⟩ = 1 + nodesL ks := by simp [nodesT]
  have HN := Lib.hid (And.intro hn hM)
  have HNl := Lib.hid hnl
  have hk9 : nodesL ks ≤ 1000000 := by omega
  obtain ⟨w1, hw1⟩ : ∃ w1 : World, w1 = w.alloc (.cells #[.int .i64 r, .int .i64 tt, .slice B ks.length d] 47) := ⟨_, rfl⟩
  have HW1 := Lib.hid hw1
  have hb1 : Below w.heap.size w w1 := by rw [hw1]; exact (Below.refl _ _).alloc (Nat.le_refl _) _
  have HT1 : Hid (Blk' w1 w.heap.size 47 #[.int .i64 r, .int .i64 tt, .slice B ks.length d]) := Lib.hid (by rw [hw1]; exact Blk'.new _ _ _)
  have HB1 := Lib.hid hb1
  clear hw1 hb1 ih hn hM hB hS hnl
  go_enter Try.func28, Try.ntmps28
  go_upto_region 2 with (fail)
  rw [← HW1.out]
  have t2 : w1.cell? ⟨w.heap.size, 2, none⟩ = some (.slice B ks.length d) := HT1.out.cell 2
  have zT : w.heap.size < w1.heap.size := HT1.out.lt
  go_wp2_with fail
  clear t2 zT
  go_loopw [3, 9] (fun a i wr => ∃ m : Nat, m ≤ ks.length ∧ a = .int .i64 ((1 : Int) + (nodesL (ks.take m) : Nat)) ∧ i = .int .i64 m ∧ Below w.heap.size w wr) (fun _ i _ => ks.length - (intOf i).toNat)
  case atStart => exact ⟨0, Nat.zero_le _, by simp [nodesL], rfl, HB1.out⟩
  case round =>
    obtain ⟨wo, hwo⟩ : ∃ wo : World, wo = wr := ⟨_, rfl⟩
    subst hwo
    obtain ⟨m, hm, rfl, rfl, hb⟩ := hrel
    have HBo := Lib.hid hb
    clear hb
    by_cases hmn : m < ks.length
    · obtain ⟨k, hk⟩ := get_some hmn
      obtain ⟨bk, ok, A', c', rfl, hSb, hbs, i1, i2, hkc, hc', hEk, k0, k1, k2⟩ := (HB.out.belowB HBo.out HS.out).tree hk
      obtain ⟨kl, hkle⟩ : ∃ kl, kl = k.kids.length := ⟨_, rfl⟩
      rw [← hkle] at k2
      have HKl := Lib.hid hkle
      have HK := Lib.hid (And.intro hkc (And.intro hc' hEk))
      have hkn := nodes_mem (List.mem_of_getElem? hk)
      have HKn : Hid (nodesT k ≤ N ∧ nodesT k ≤ 1000000) := Lib.hid (by have := HN.out; have := HNl.out; omega)
      have hta := nodesL_take hk
      have htl := nodesL_take_le ks (m + 1)
      obtain ⟨a, ha⟩ : ∃ a, a = nodesL (ks.take m) := ⟨_, rfl⟩
      obtain ⟨kn, hkne⟩ : ∃ kn, kn = nodesT k := ⟨_, rfl⟩
      have HTa : Hid (nodesL (ks.take (m + 1)) = a + kn) := Lib.hid (by rw [hta, ha, hkne])
      have hakn : a + kn ≤ 1000000 := by rw [ha, hkne]; omega
      rw [← ha]
      have HKne := Lib.hid hkne
      have hwr : IntKind.i64.wrap ((1 : Int) + (a : Int) + (kn : Int)) = (1 : Int) + (a : Int) + (kn : Int) := IntWalk.i64_in _ (by omega)
      have hm0 : (0 : Int) ≤ (m : Int) := by omega
      have hm9 : (m : Int) < (ks.length : Int) := by omega
      obtain ⟨w2, hw2⟩ : ∃ w2 : World, w2 = wo.alloc (.cells #[.int .i64 k.rule, .int .i64 k.term, .slice A' kl c'] 47) := ⟨_, rfl⟩
      have HW2 := Lib.hid hw2
      have hb2 : Below wo.heap.size wo w2 := by rw [hw2]; exact (Below.refl _ _).alloc (Nat.le_refl _) _
      have HX2 : Hid (Blk' w2 wo.heap.size 47 #[.int .i64 k.rule, .int .i64 k.term, .slice A' kl c']) := Lib.hid (by rw [hw2]; exact Blk'.new _ _ _)
      have HB2 := Lib.hid (bthen HBo.out hb2 HBo.out.size)
      have HE2 := Lib.hid (hEk.below hb2)
      clear hk i1 i2 hkc hEk hw2 hb2 hkle hkn hta htl ha hkne
      go_upto_region 5 with (fail)
      rw [← HW2.out]
      have x0 : w2.cell? ⟨wo.heap.size, 0, none⟩ = some (.int .i64 k.rule) := HX2.out.cell 0
      have x1 : w2.cell? ⟨wo.heap.size, 1, none⟩ = some (.int .i64 k.term) := HX2.out.cell 1
      have x2 : w2.cell? ⟨wo.heap.size, 2, none⟩ = some (.slice A' kl c') := HX2.out.cell 2
      have zX : wo.heap.size < w2.heap.size := HX2.out.lt
      clear k0 k1 k2 hSb hbs HW2
      go_wp2_with fail
      rw [HKl.out]
      refine (HIh.out k HKn.out.1 HKn.out.2 w2 A' c' S HK.out.1 HK.out.2.1 HE2.out (fun b hb => by have := HS.out b hb; have := HB2.out.size; omega)).mono ?_
      rintro e w3 ⟨rfl, hb3⟩
      have HB3 := Lib.hid (bthen HB2.out hb3 HB2.out.size)
      rw [← HKne.out]
      clear hb3 x0 x1 x2 zX
      go_wp2_with fail
      go_roundw
      case rel => exact ⟨m + 1, hmn, by rw [HTa.out]; congr 1; omega, by go_num, HB3.out⟩
      case measure => simp [intOf]; omega
    · have HE : Hid ((1 : Int) + (nodesL (ks.take m) : Nat) = ((nodesT ⟨r, tt, ks⟩ : Nat) : Int)) := Lib.hid (by rw [HNl.out, List.take_of_length_le (by omega)]; omega)
      obtain ⟨a, ha⟩ : ∃ a : Int, a = (1 : Int) + (nodesL (ks.take m) : Nat) := ⟨_, rfl⟩
      rw [← ha]
      rw [← ha] at HE
      clear ha
      go_wp2
      go_ret
      exact ⟨ret_int HE.out, HBo.out⟩
end Go.Proofs.Ytecofoilghdedaa
