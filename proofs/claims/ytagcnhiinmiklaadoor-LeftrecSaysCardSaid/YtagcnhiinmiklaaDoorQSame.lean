/- Contracts: parlref2.SameRule, slices.EqualFunc at rules with it, parlref2.SameGram. -/
import Derived.Test.YtagcnhiinmiklaaDoorQw1
import Derived.Test.YtagcnhiinmiklaaDoorQp1
namespace Go.Proofs.YtagcnhiinmiklaaDoor
open Go.RowKit
set_option linter.unusedVariables false

set_option maxRecDepth 100000 in
set_option maxHeartbeats 1000000 in
theorem sameRule_any (l l' : Int) (xs ys : List Sym) (A A' : Option Addr) (c c' : Nat) (S S' : Nat → Prop) (w : World) (hc : xs.length ≤ c ∧ c ≤ 9223372036854775807) (hc' : ys.length ≤ c' ∧ c' ≤ 9223372036854775807) (hA : Els w S xs A) (hA' : Els w S' ys A') :
    Calls Tryd.prog 14 #[.agg #[.int .i64 l, .slice A xs.length c], .agg #[.int .i64 l', .slice A' ys.length c']] w fun e w' => e = .returned (.bool (decide ((⟨l, xs⟩ : Rule) = ⟨l', ys⟩))) ∧ Below w.heap.size w w' := by
  have hba : ∀ (o1 o2 : Obj), Below w.heap.size w ((w.alloc o1).alloc o2) := fun o1 o2 => ((Below.refl _ _).alloc (Nat.le_refl _) _).alloc (by simp) _
  by_cases hl : l = l'
  · subst hl
    have hq : (l == l) = true := by simp
    have E := Lib.hid (show decide ((⟨l, xs⟩ : Rule) = ⟨l, ys⟩) = decide (xs = ys) by simp)
    have H1 := Lib.hid (hA.below (hba (.cells #[.int .i64 l, .slice A xs.length c] 49) (.cells #[.int .i64 l, .slice A' ys.length c'] 49)))
    have H2 := Lib.hid (hA'.below (hba (.cells #[.int .i64 l, .slice A xs.length c] 49) (.cells #[.int .i64 l, .slice A' ys.length c'] 49)))
    have HB := Lib.hid (hba (.cells #[.int .i64 l, .slice A xs.length c] 49) (.cells #[.int .i64 l, .slice A' ys.length c'] 49))
    clear hba
    go_enter Tryd.func14, Tryd.ntmps14
    go_wp2_with fail
    refine (equalSym_any A A' xs ys _ _ c c' S S' _ rfl rfl (by omega) (by omega) H1.out H2.out).mono ?_
    rintro e w1 ⟨rfl, hb1⟩
    have HZ := Lib.hid (bthen HB.out hb1 (by simp; omega))
    clear hb1
    go_wp2
    go_ret
    exact ⟨ret_bool E.out.symm, HZ.out⟩
  · have E := Lib.hid (show decide ((⟨l, xs⟩ : Rule) = ⟨l', ys⟩) = false by simp [hl])
    have hq : (l == l') = false := by simp [hl]
    have HB := Lib.hid (hba (.cells #[.int .i64 l, .slice A xs.length c] 49) (.cells #[.int .i64 l', .slice A' ys.length c'] 49))
    clear hl hba
    go_enter Tryd.func14, Tryd.ntmps14
    go_wp2
    go_ret
    exact ⟨ret_bool E.out.symm, HB.out⟩

set_option maxRecDepth 100000 in
set_option maxHeartbeats 1000000 in
theorem eqRules_any (A A' : Option Addr) (xs ys : List Rule) (n n' c c' : Nat) (S S' : Nat → Prop) (w : World) (hn : n = xs.length) (hn' : n' = ys.length) (hm : xs.length ≤ 9223372036854775807) (hm' : ys.length ≤ 9223372036854775807) (hA : Els w S xs A) (hA' : Els w S' ys A') :
    Calls Tryd.prog 13 #[.slice A n c, .slice A' n' c', .func (.func 14) #[] #[]] w fun e w' => e = .returned (.bool (decide (xs = ys))) ∧ Below w.heap.size w w' := by
  subst hn; subst hn'
  by_cases hl : xs.length = ys.length
  · have hl' : ((xs.length : Int) != (ys.length : Int)) = false := by simp; omega
    have HL := Lib.hid hl
    clear hl
    go_enter Tryd.func13, Tryd.ntmps13
    go_wp2
    go_loopw [17] (fun i wr => ∃ k : Nat, k ≤ xs.length ∧ i = .int .i64 k ∧ Hid (xs.take k = ys.take k) ∧ Below w.heap.size w wr) (fun i _ => xs.length - (intOf i).toNat)
    case atStart => exact ⟨0, Nat.zero_le _, rfl, Lib.hid rfl, Below.refl _ _⟩
    case round =>
      obtain ⟨wo, hwo⟩ : ∃ wo : World, wo = wr := ⟨_, rfl⟩
      subst hwo
      obtain ⟨k, hk, rfl, HT, hb⟩ := hrel
      have HB := Lib.hid hb
      clear hb
      by_cases hlt : k < xs.length
      · have hlt' : k < ys.length := by have := HL.out; omega
        have hk1 : (k : Int) < (xs.length : Int) := by omega
        have hk2 : (k : Int) < (ys.length : Int) := by omega
        obtain ⟨x, hx⟩ := get_some hlt
        obtain ⟨y, hy⟩ := get_some hlt'
        obtain ⟨b, o, Ax, cx, rfl, _, hbs, hi, hx1, hx2, hEx, hc0, hc1⟩ := (hA.below HB.out).rule hx
        obtain ⟨b', o', Ay, cy, rfl, _, hbs', hi', hy1, hy2, hEy, hc0', hc1'⟩ := (hA'.below HB.out).rule hy
        have HX := Lib.hid (And.intro hx hy)
        have hk0 : (0 : Int) ≤ (k : Int) := by omega
        clear hx hy
        obtain ⟨l, r⟩ := x
        obtain ⟨l', r'⟩ := y
        dsimp only at *
        have hba : Below wo.heap.size wo ((wo.alloc (.cells #[.int .i64 l, .slice Ax r.length cx] 49)).alloc (.cells #[.int .i64 l', .slice Ay r'.length cy] 49)) := ((Below.refl _ _).alloc (Nat.le_refl _) _).alloc (by simp) _
        have H1 := Lib.hid (And.intro hba (And.intro (hEx.below hba) (hEy.below hba)))
        clear hEx hEy hba
        go_wp2_with fail
        refine (sameRule_any l l' r r' Ax Ay cx cy S S' _ ⟨hx1, hx2⟩ ⟨hy1, hy2⟩ H1.out.2.1 H1.out.2.2).mono ?_
        rintro e w1 ⟨rfl, hb1⟩
        have HZ := Lib.hid (bthen HB.out (bthen H1.out.1 hb1 (by simp; omega)) HB.out.size)
        clear hb1
        by_cases he : (⟨l, r⟩ : Rule) = ⟨l', r'⟩
        · have HE := Lib.hid (take_eq HX.out.1 HX.out.2 he HT.out)
          rw [decide_eq_true he]
          clear he
          go_wp2
          go_roundw
          case rel => exact ⟨k + 1, hlt, by go_num, HE, HZ.out⟩
          case measure => simp [intOf]; omega
        · have HE := Lib.hid (take_ne HX.out.1 HX.out.2 he)
          rw [decide_eq_false he]
          clear he
          go_wp2
          go_ret
          exact ⟨ret_bool (by simp [HE.out]), HZ.out⟩
      · have HE := Lib.hid (take_all HL.out (by omega) HT.out)
        go_wp2
        go_ret
        exact ⟨ret_bool (by simp [HE.out]), HB.out⟩
  · have hl' : ((xs.length : Int) != (ys.length : Int)) = true := by simp; omega
    have HE : Hid (xs ≠ ys) := Lib.hid (by rintro rfl; exact hl rfl)
    clear hl
    go_enter Tryd.func13, Tryd.ntmps13
    go_wp2
    go_ret
    exact ⟨ret_bool (by simp [HE.out]), Below.refl _ _⟩

set_option maxRecDepth 100000 in
set_option maxHeartbeats 1000000 in
theorem sameGram_any (g h : Gram) (A A' : Option Addr) (c c' : Nat) (S S' : Nat → Prop) (w : World) (hc : g.rules.length ≤ c ∧ c ≤ 9223372036854775807) (hc' : h.rules.length ≤ c' ∧ c' ≤ 9223372036854775807) (hA : Els w S g.rules A) (hA' : Els w S' h.rules A') :
    Calls Tryd.prog 7 #[.agg #[.int .i64 g.terms, .int .i64 g.nons, .int .i64 g.start, .slice A g.rules.length c], .agg #[.int .i64 h.terms, .int .i64 h.nons, .int .i64 h.start, .slice A' h.rules.length c']] w fun e w' => e = .returned (.bool (decide (g = h))) ∧ Below w.heap.size w w' := by
  obtain ⟨t, n, s, xs⟩ := g
  obtain ⟨t', n', s', ys⟩ := h
  dsimp only at *
  have hba : ∀ (o1 o2 : Obj), Below w.heap.size w ((w.alloc o1).alloc o2) := fun o1 o2 => ((Below.refl _ _).alloc (Nat.le_refl _) _).alloc (by simp) _
  have H1 := Lib.hid (hA.below (hba (.cells #[.int .i64 t, .int .i64 n, .int .i64 s, .slice A xs.length c] 24) (.cells #[.int .i64 t', .int .i64 n', .int .i64 s', .slice A' ys.length c'] 24)))
  have H2 := Lib.hid (hA'.below (hba (.cells #[.int .i64 t, .int .i64 n, .int .i64 s, .slice A xs.length c] 24) (.cells #[.int .i64 t', .int .i64 n', .int .i64 s', .slice A' ys.length c'] 24)))
  have HB := Lib.hid (hba (.cells #[.int .i64 t, .int .i64 n, .int .i64 s, .slice A xs.length c] 24) (.cells #[.int .i64 t', .int .i64 n', .int .i64 s', .slice A' ys.length c'] 24))
  clear hba
  by_cases h1 : t = t'
  · by_cases h2 : n = n'
    · by_cases h3 : s = s'
      · have E := Lib.hid (show decide ((⟨t, n, s, xs⟩ : Gram) = ⟨t', n', s', ys⟩) = decide (xs = ys) by simp [h1, h2, h3])
        have q1 : (t == t') = true := by simp [h1]
        have q2 : (n == n') = true := by simp [h2]
        have q3 : (s == s') = true := by simp [h3]
        clear h1 h2 h3
        go_enter Tryd.func7, Tryd.ntmps7
        go_wp2_with fail
        refine (eqRules_any A A' xs ys _ _ c c' S S' _ rfl rfl (by omega) (by omega) H1.out H2.out).mono ?_
        rintro e w1 ⟨rfl, hb1⟩
        have HZ := Lib.hid (bthen HB.out hb1 (by simp; omega))
        clear hb1
        go_wp2
        go_ret
        exact ⟨ret_bool E.out.symm, HZ.out⟩
      · have E := Lib.hid (show decide ((⟨t, n, s, xs⟩ : Gram) = ⟨t', n', s', ys⟩) = false by simp [h3])
        have q1 : (t == t') = true := by simp [h1]
        have q2 : (n == n') = true := by simp [h2]
        have q3 : (s == s') = false := by simp [h3]
        clear h1 h2 h3
        go_enter Tryd.func7, Tryd.ntmps7
        go_wp2
        go_ret
        exact ⟨ret_bool E.out.symm, HB.out⟩
    · have E := Lib.hid (show decide ((⟨t, n, s, xs⟩ : Gram) = ⟨t', n', s', ys⟩) = false by simp [h2])
      have q1 : (t == t') = true := by simp [h1]
      have q2 : (n == n') = false := by simp [h2]
      clear h1 h2
      go_enter Tryd.func7, Tryd.ntmps7
      go_wp2
      go_ret
      exact ⟨ret_bool E.out.symm, HB.out⟩
  · have E := Lib.hid (show decide ((⟨t, n, s, xs⟩ : Gram) = ⟨t', n', s', ys⟩) = false by simp [h1])
    have q1 : (t == t') = false := by simp [h1]
    clear h1
    go_enter Tryd.func7, Tryd.ntmps7
    go_wp2
    go_ret
    exact ⟨ret_bool E.out.symm, HB.out⟩
end Go.Proofs.YtagcnhiinmiklaaDoor
