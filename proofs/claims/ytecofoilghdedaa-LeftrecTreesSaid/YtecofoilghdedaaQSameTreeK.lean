/- Contracts: parlkeep2.sameTree, slices.EqualFunc at trees with it. -/
import Derived.Test.YtecofoilghdedaaQp2
import Derived.Test.YtecofoilghdedaaQp1
import Derived.Test.YtecofoilghdedaaQYield
namespace Go.Proofs.Ytecofoilghdedaa
open Go.RowKit
set_option linter.unusedVariables false

noncomputable instance instDecTreeK : DecidableEq Tree := fun _ _ => Classical.propDecidable _
def SameIHK (x : Tree) (S S' : Nat → Prop) : Prop :=
  ∀ (y : Tree) (B B' : Option Addr) (d d' : Nat) (w : World), x.kids.length ≤ d ∧ d ≤ 9223372036854775807 → y.kids.length ≤ d' ∧ d' ≤ 9223372036854775807 → Els w S x.kids B → Els w S' y.kids B' →
    Calls Try.prog 14 #[.agg #[.int .i64 x.rule, .int .i64 x.term, .slice B x.kids.length d], .agg #[.int .i64 y.rule, .int .i64 y.term, .slice B' y.kids.length d']] w
      fun e w' => e = .returned (.bool (decide (x = y))) ∧ Below w.heap.size w w'

set_option maxRecDepth 100000 in
set_option maxHeartbeats 1000000 in
theorem eqTreesK_any (A A' : Option Addr) (xs ys : List Tree) (n n' c c' : Nat) (S S' : Nat → Prop) (w : World) (hn : n = xs.length) (hn' : n' = ys.length) (hm : xs.length ≤ 9223372036854775807) (hm' : ys.length ≤ 9223372036854775807) (hA : Els w S xs A) (hA' : Els w S' ys A')
    (ih : ∀ x ∈ xs, SameIHK x S S') :
    Calls Try.prog 30 #[.slice A n c, .slice A' n' c', .func (.func 14) #[] #[]] w fun e w' => e = .returned (.bool (decide (xs = ys))) ∧ Below w.heap.size w w' := by
  subst hn; subst hn'
  have IH := Lib.hid ih
  clear ih
  by_cases hl : xs.length = ys.length
  · have hl' : ((xs.length : Int) != (ys.length : Int)) = false := by simp; omega
    have HL := Lib.hid hl
    clear hl
    go_enter Try.func30, Try.ntmps30
    go_wp2
    go_loopw [17] (fun i wr => ∃ k : Nat, k ≤ xs.length ∧ i = .int .i64 k ∧ Hid (xs.take k = ys.take k) ∧ Below w.heap.size w wr) (fun i _ => xs.length - (intOf i).toNat)
    case atStart => exact ⟨0, Nat.zero_le _, rfl, Lib.hid rfl, Below.refl _ _⟩
    case round =>
      obtain ⟨wo, hwo⟩ : ∃ wo : World, wo = wr := ⟨_, rfl⟩
      subst hwo
      obtain ⟨k, hk, rfl, HT, hb⟩ := hrel
      have HB := Lib.hid hb
      clear hb
      by_cases hlt : k < xs.length
      · have hlt' : k < ys.length := by have := HL.out; omega
        have hk1 : (k : Int) < (xs.length : Int) := by omega
        have hk2 : (k : Int) < (ys.length : Int) := by omega
        obtain ⟨x, hx⟩ := get_some hlt
        obtain ⟨y, hy⟩ := get_some hlt'
        obtain ⟨b, o, Ax, cx, rfl, _, hbs, hi, hit, hx1, hx2, hEx, hc0, hc1, hc2⟩ := (hA.below HB.out).tree hx
        obtain ⟨b', o', Ay, cy, rfl, _, hbs', hi', hit', hy1, hy2, hEy, hc0', hc1', hc2'⟩ := (hA'.below HB.out).tree hy
        have HX := Lib.hid (And.intro hx hy)
        have hk0 : (0 : Int) ≤ (k : Int) := by omega
        have hba : Below wo.heap.size wo ((wo.alloc (.cells #[.int .i64 x.rule, .int .i64 x.term, .slice Ax x.kids.length cx] 47)).alloc (.cells #[.int .i64 y.rule, .int .i64 y.term, .slice Ay y.kids.length cy] 47)) := ((Below.refl _ _).alloc (Nat.le_refl _) _).alloc (by simp) _
        have H1 := Lib.hid (And.intro hba (And.intro (hEx.below hba) (hEy.below hba)))
        clear hx hy hEx hEy hba
        go_wp2_with fail
        refine (IH.out x (List.mem_of_getElem? HX.out.1) y Ax Ay cx cy _ ⟨hx1, hx2⟩ ⟨hy1, hy2⟩ H1.out.2.1 H1.out.2.2).mono ?_
        rintro e w1 ⟨rfl, hb1⟩
        have HZ := Lib.hid (bthen HB.out (bthen H1.out.1 hb1 (by simp; omega)) HB.out.size)
        clear hb1
        by_cases he : x = y
        · have HE := Lib.hid (take_eq HX.out.1 HX.out.2 he HT.out)
          rw [decide_eq_true he]
          clear he
          go_wp2
          go_roundw
          case rel => exact ⟨k + 1, hlt, by go_num, HE, HZ.out⟩
          case measure => simp [intOf]; omega
        · have HE := Lib.hid (take_ne HX.out.1 HX.out.2 he)
          rw [decide_eq_false he]
          clear he
          go_wp2
          go_ret
          exact ⟨ret_bool (by simp [HE.out]), HZ.out⟩
      · have HE := Lib.hid (take_all HL.out (by omega) HT.out)
        go_wp2
        go_ret
        exact ⟨ret_bool (by simp [HE.out]), HB.out⟩
  · have hl' : ((xs.length : Int) != (ys.length : Int)) = true := by simp; omega
    have HE : Hid (xs ≠ ys) := Lib.hid (by rintro rfl; exact hl rfl)
    clear hl
    go_enter Try.func30, Try.ntmps30
    go_wp2
    go_ret
    exact ⟨ret_bool (by simp [HE.out]), Below.refl _ _⟩

set_option maxRecDepth 100000 in
set_option maxHeartbeats 1000000 in
theorem sameTreeK_any (S S' : Nat → Prop) : ∀ x : Tree, SameIHK x S S' := by
  refine Tree.ind ?_
  intro r t ks ih y B B' d d' w hd hd' hA hA'
  have IH := Lib.hid ih
  clear ih
  obtain ⟨r', t', ks'⟩ := y
  dsimp only [Tree.rule, Tree.term, Tree.kids] at *
  have hba : ∀ (o1 o2 : Obj), Below w.heap.size w ((w.alloc o1).alloc o2) := fun o1 o2 => ((Below.refl _ _).alloc (Nat.le_refl _) _).alloc (by simp) _
  have H1 := Lib.hid (hA.below (hba (.cells #[.int .i64 r, .int .i64 t, .slice B ks.length d] 47) (.cells #[.int .i64 r', .int .i64 t', .slice B' ks'.length d'] 47)))
  have H2 := Lib.hid (hA'.below (hba (.cells #[.int .i64 r, .int .i64 t, .slice B ks.length d] 47) (.cells #[.int .i64 r', .int .i64 t', .slice B' ks'.length d'] 47)))
  have HB := Lib.hid (hba (.cells #[.int .i64 r, .int .i64 t, .slice B ks.length d] 47) (.cells #[.int .i64 r', .int .i64 t', .slice B' ks'.length d'] 47))
  clear hba hA hA'
  by_cases h1 : r = r'
  · by_cases h2 : t = t'
    · have E := Lib.hid (show decide ((⟨r, t, ks⟩ : Tree) = ⟨r', t', ks'⟩) = decide (ks = ks') by simp [h1, h2])
      have q1 : (r == r') = true := by simp [h1]
      have q2 : (t == t') = true := by simp [h2]
      clear h1 h2
      go_enter Try.func14, Try.ntmps14
      go_wp2_with fail
      refine (eqTreesK_any B B' ks ks' _ _ d d' S S' _ rfl rfl (by omega) (by omega) H1.out H2.out IH.out).mono ?_
      rintro e w1 ⟨rfl, hb1⟩
      have HZ := Lib.hid (bthen HB.out hb1 (by simp; omega))
      clear hb1
      go_wp2
      go_ret
      exact ⟨ret_bool E.out.symm, HZ.out⟩
    · have E := Lib.hid (show decide ((⟨r, t, ks⟩ : Tree) = ⟨r', t', ks'⟩) = false by simp [h2])
      have q1 : (r == r') = true := by simp [h1]
      have q2 : (t == t') = false := by simp [h2]
      clear h1 h2
      go_enter Try.func14, Try.ntmps14
      go_wp2
      go_ret
      exact ⟨ret_bool E.out.symm, HB.out⟩
  · have E := Lib.hid (show decide ((⟨r, t, ks⟩ : Tree) = ⟨r', t', ks'⟩) = false by simp [h1])
    have q1 : (r == r') = false := by simp [h1]
    clear h1
    go_enter Try.func14, Try.ntmps14
    go_wp2
    go_ret
    exact ⟨ret_bool E.out.symm, HB.out⟩
end Go.Proofs.Ytecofoilghdedaa
