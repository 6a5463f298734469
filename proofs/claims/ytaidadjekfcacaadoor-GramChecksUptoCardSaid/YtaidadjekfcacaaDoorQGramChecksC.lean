/- The walk of the law GramChecks. -/
import Derived.Test.YtaidadjekfcacaaDoorQUses
import Derived.Test.YtaidadjekfcacaaDoorQSortedZ
import Derived.Test.YtaidadjekfcacaaDoorQSortedOf
import Derived.Test.YtaidadjekfcacaaDoorQWordErr
import Derived.Test.YtaidadjekfcacaaDoorQGramErr
import Derived.Test.YtaidadjekfcacaaDoorQGSame
import Derived.Test.YtaidadjekfcacaaDoorQSame
import Derived.Test.YtaidadjekfcacaaDoorQCopyW
import Derived.Test.YtaidadjekfcacaaDoorQSimple
import Derived.Test.YtaidadjekfcacaaDoorQEqInt
import Derived.Test.YtaidadjekfcacaaDoorQp1
import Derived.Test.YtaidadjekfcacaaDoorQIdxSym
import Derived.StillTailTactics
import Derived.Deep.RegionHeld3
import Derived.Deep.DeepCutAuto
namespace Go.Proofs.YtaidadjekfcacaaDoor
open Go.RowKit
set_option linter.unusedVariables false

def zeroGc : Gram := ⟨0, 0, 0, []⟩
theorem simple_of : ofL simpleG 0 = [0, 1] := by decide +kernel
theorem simple_whe : whereE simpleG 0 = 0 := by decide +kernel
theorem eq_trueC (A A' : Option Addr) (xs ys : List Int) (n n' c c' : Nat) (S S' : Nat → Prop) (w : World) (he : xs = ys) (hn : n = xs.length) (hn' : n' = ys.length) (hm : xs.length ≤ 1000000) (hA : Els w S xs A) (hA' : Els w S' ys A') :
    Calls Tryd.prog 40 #[.slice A n c, .slice A' n' c'] w fun e w' => e = .returned (.bool true) ∧ Below w.heap.size w w' := by
  subst he
  refine (equalInt_any A A' xs xs n n' c c' S S' w hn hn' (by omega) (by omega) hA hA').mono ?_
  rintro e w' ⟨rfl, hb⟩
  exact ⟨by simp, hb⟩
theorem sameG_true (g h : Gram) (A A' : Option Addr) (c c' : Nat) (S S' : Nat → Prop) (w : World) (e : g = h) (hc : g.rules.length ≤ c ∧ c ≤ 9223372036854775807) (hc' : h.rules.length ≤ c' ∧ c' ≤ 9223372036854775807) (hA : Els w S g.rules A) (hA' : Els w S' h.rules A') :
    Calls Tryd.prog 26 #[.agg #[.int .i64 g.terms, .int .i64 g.nons, .int .i64 g.start, .slice A g.rules.length c], .agg #[.int .i64 h.terms, .int .i64 h.nons, .int .i64 h.start, .slice A' h.rules.length c']] w fun e w' => e = .returned (.bool true) ∧ Below w.heap.size w w' :=
  (sameGram_any g h A A' c c' S S' w hc hc' hA hA').mono fun e' w' h => ⟨by rw [h.1, decide_eq_true e], h.2⟩
theorem gSame_true (g : Gram) (A A' : Option Addr) (c c' : Nat) (S S' : Nat → Prop) (w : World) (hc : g.rules.length ≤ c ∧ c ≤ 9223372036854775807) (hc' : g.rules.length ≤ c' ∧ c' ≤ 9223372036854775807) (hA : Els w S g.rules A) (hA' : Els w S' g.rules A') :
    Calls Tryd.prog 44 #[.agg #[.int .i64 g.terms, .int .i64 g.nons, .int .i64 g.start, .slice A g.rules.length c], .agg #[.int .i64 g.terms, .int .i64 g.nons, .int .i64 g.start, .slice A' g.rules.length c']] w fun e w' => e = .returned (.bool true) ∧ Below w.heap.size w w' :=
  (gSame_any g g A A' c c' S S' w hc hc' hA hA').mono fun e' w' h => ⟨by rw [h.1, decide_eq_true rfl], h.2⟩
def nonP (n : Int) (x : Sym) : Bool := !x.term && x.n == n
theorem checks1_any (n : Int) (x : Sym) (G : Nat) (w : World) (g0 : w.cell? ⟨G, 0, none⟩ = some (.int .i64 n)) :
    Calls Tryd.prog 51 #[.agg #[.bool x.term, .int .i64 x.n], .pointer (some ⟨G, 0, none⟩)] w fun e w' => e = .returned (.bool (nonP n x)) ∧ Below w.heap.size w w' := by
  obtain ⟨t, m⟩ := x
  have hG : G < w.heap.size := World.block_lt_of_cell? w _ g0
  have HB := Lib.hid ((Below.refl w.heap.size w).alloc (Nat.le_refl _) (.cells #[.bool t, .int .i64 m] 64))
  cases t
  all_goals
    go_enter Tryd.func51, Tryd.ntmps51
    go_wp2
    go_ret
    exact ⟨by simp [nonP], HB.out⟩
theorem checks_go : IsGo 51 := isGo_of Tryd.func51 (by kernel_rfl) (by kernel_rfl)
theorem nonP_any (n : Int) (r : Rule) : r.right.any (nonP n) = usesP n r := by
  unfold usesP
  rw [Bool.eq_iff_iff, List.any_eq_true, decide_eq_true_iff]
  constructor
  · rintro ⟨⟨t, m⟩, hx, h⟩
    unfold nonP at h
    cases t with
    | true => simp at h
    | false => simp at h; subst h; exact hx
  · intro h
    exact ⟨_, h, by simp [nonP]⟩
theorem chkFrom_nodup {t n : Int} : ∀ (pre rs : List Rule), chkFrom t n pre rs = 0 → pre.Nodup → (pre ++ rs).Nodup
  | pre, [], _, hp => by simpa using hp
  | pre, r :: rs, h, hp => by
    unfold chkFrom at h
    split at h
    · cases h
    split at h
    · cases h
    split at h
    · cases h
    split at h
    · cases h
    rename_i h1 h2 h3 h4
    have hr : r ∉ pre := fun hm => h4 (List.any_eq_true.2 ⟨r, hm, by simpa using ruleCmp_zero.2 rfl⟩)
    have := chkFrom_nodup (pre ++ [r]) rs h (by
      rw [List.nodup_append]
      refine ⟨hp, by simp, fun a ha b hb e => ?_⟩
      rw [List.mem_singleton] at hb
      subst hb; subst e
      exact hr ha)
    simpa using this
theorem valid_nodup {g : Gram} (h : checkI g = 0) : g.rules.Nodup := by
  unfold checkI at h
  split at h
  · cases h
  split at h
  · cases h
  simpa using chkFrom_nodup [] g.rules h (by simp)
theorem grown_cell6 {w w' : World} {row : Option Nat} (hg : w.grownBy w' row) {b o : Nat} {v : Value} (h : w.cell? ⟨b, o, none⟩ = some v) (hne : row ≠ some b) : w'.cell? ⟨b, o, none⟩ = some v :=
  (World.cell?_of_block (a := ⟨b, o, none⟩) (hg.block b (World.block_lt_of_cell? w _ h) (fun e => hne e.symm))).trans h
def Lp1 (rs : List Rule) (wl : World) (i : Value) (wr : World) : Prop := ∃ m : Nat, m ≤ rs.length ∧ i = .int .i64 m ∧ Below wl.heap.size wl wr
def Lp2 (rs : List Rule) (n : Int) (wl : World) (i va vb : Value) (wr : World) : Prop :=
  ∃ (k : Nat) (oa ob : List Int) (xa xb : Value), xa = va ∧ xb = vb ∧ k ≤ rs.length ∧ i = .int .i64 k ∧ oa.length ≤ k ∧ ob.length ≤ k ∧ whereFrom (fun r => r.left == n) 0 rs = oa ++ whereFrom (fun r => r.left == n) k (rs.drop k) ∧ whereFrom (usesP n) 0 rs = ob ++ whereFrom (usesP n) k (rs.drop k) ∧
    Two wr (fun _ => False) wl.heap.size 3 3 xa xb oa ob ∧ Below wl.heap.size wl wr

set_option maxRecDepth 100000 in
set_option maxHeartbeats 16000000 in
theorem gramChecks_any (g h : Gram) (l : List Int) (most nn : Int) (A B C : Option Addr) (c d f : Nat) (S : Nat → Prop) (w : World) (h64 : I64 g.terms ∧ I64 g.nons ∧ I64 g.start) (hlc : g.rules.length ≤ c) (hc : c ≤ 9223372036854775807) (hA : Els w S g.rules A) (hld : h.rules.length ≤ d) (hd : d ≤ 9223372036854775807) (hB : Els w S h.rules B) (hlf : l.length ≤ f) (hf : f ≤ 9223372036854775807) (hC : Els w S l C) (hS : ∀ b, S b → b < w.heap.size) (hbk : g.rules.length ≤ 1000000 ∧ ∀ q ∈ g.rules, q.right.length ≤ 1000000) :
    Calls Tryd.prog 7 #[.agg #[.int .i64 g.terms, .int .i64 g.nons, .int .i64 g.start, .slice A g.rules.length c], .agg #[.int .i64 h.terms, .int .i64 h.nons, .int .i64 h.start, .slice B h.rules.length d], .slice C l.length f, .int .i64 most, .int .i64 nn] w fun e w' => e = .returned (.bool true) ∧ Below w.heap.size w w' := by
  obtain ⟨E, hE⟩ : ∃ E, E = checkI g := ⟨_, rfl⟩
  obtain ⟨WE, hWE⟩ : ∃ x, x = wordE g.terms l most := ⟨_, rfl⟩
  obtain ⟨sb, hsb⟩ : ∃ x, x = decide (g = h) := ⟨_, rfl⟩
  obtain ⟨ol, hol⟩ : ∃ x, x = ofL g nn := ⟨_, rfl⟩
  obtain ⟨ul, hul⟩ : ∃ x, x = usesL g nn := ⟨_, rfl⟩
  obtain ⟨WH, hWH⟩ : ∃ x, x = whereE g nn := ⟨_, rfl⟩
  have HE := Lib.hid hE
  have HWE := Lib.hid hWE
  have HSB := Lib.hid hsb
  have HOL := Lib.hid hol
  have HUL := Lib.hid hul
  have HWH := Lib.hid hWH
  have HBK := Lib.hid hbk
  clear hE hWE hsb hol hul hWH hbk
  obtain ⟨gt, gn, gs, rs⟩ := g
  obtain ⟨ht, hn, hs, rs2⟩ := h
  dsimp only at *
  have KEA_0 : Hid (Els w S rs A) := Lib.hid (hA)
  have KEB_0 : Hid (Els w S rs2 B) := Lib.hid (hB)
  have KEC_0 : Hid (Els w S l C) := Lib.hid (hC)
  have HS := Lib.hid hS
  have HI := Lib.hid h64
  clear hA hB hC hS h64
  obtain ⟨w_1, hww_1⟩ : ∃ w_1 : World, w_1 = ((w.alloc (.cells #[.int .i64 gt, .int .i64 gn, .int .i64 gs, .slice A rs.length c] 25)).alloc (.cells #[.int .i64 ht, .int .i64 hn, .int .i64 hs, .slice B rs2.length d] 25)).alloc (.cells #[.int .i64 nn] 3) := ⟨_, rfl⟩
  have hbw_1 : Below w.heap.size w w_1 := by rw [hww_1]; exact (((Below.refl _ _).alloc (by first | exact Nat.le_refl _ | (simp; done) | (simp; omega)) _).alloc (by first | exact Nat.le_refl _ | (simp; done) | (simp; omega)) _).alloc (by first | exact Nat.le_refl _ | (simp; done) | (simp; omega)) _
  have sqw_1 : w_1.heap.size = w.heap.size + 1 + 1 + 1 := by rw [hww_1]; simp
  have KEA_1 : Hid (Els w_1 S rs A) := Lib.hid (KEA_0.out.below hbw_1)
  have KEB_1 : Hid (Els w_1 S rs2 B) := Lib.hid (KEB_0.out.below hbw_1)
  have KEC_1 : Hid (Els w_1 S l C) := Lib.hid (KEC_0.out.below hbw_1)
  have QB_1 : Hid (Below w.heap.size w w_1) := Lib.hid (hbw_1)
  have sz_1 : w.heap.size + 1 + 1 + 1 ≤ w_1.heap.size := by rw [sqw_1]; exact Nat.le_refl _
  have KA_1 : Hid (Blk' w_1 (w.heap.size) 25 #[.int .i64 gt, .int .i64 gn, .int .i64 gs, .slice A rs.length c]) := Lib.hid (by rw [hww_1]; exact ((Blk'.new w _ _).alloc _).alloc _)
  have KB_1 : Hid (Blk' w_1 (w.heap.size + 1) 25 #[.int .i64 ht, .int .i64 hn, .int .i64 hs, .slice B rs2.length d]) := Lib.hid (by rw [hww_1]; exact (Blk'.new' (g := w.heap.size + 1) _ _ _ (by simp)).alloc _)
  have KN_1 : Hid (Blk' w_1 (w.heap.size + 1 + 1) 3 #[.int .i64 nn]) := Lib.hid (by rw [hww_1]; exact Blk'.new' (g := w.heap.size + 1 + 1) _ _ _ (by simp))
  have HWw_1 := Lib.hid hww_1
  have SQw_1 := Lib.hid sqw_1
  clear hww_1 hbw_1 sqw_1
  clear KEA_0 KEB_0 KEC_0
  go_enter Tryd.func7, Tryd.ntmps7
  go_upto_region 1 with (fail)
  rw [← HWw_1.out]
  go_wp2_with fail
  refine (simple_any _).mono ?_
  rintro e w_2 ⟨As, rfl, hEs, hbz⟩
  have HEs := Lib.hid hEs
  clear hEs
  have KEA_2 : Hid (Els w_2 S rs A) := Lib.hid (KEA_1.out.below hbz)
  have KEB_2 : Hid (Els w_2 S rs2 B) := Lib.hid (KEB_1.out.below hbz)
  have KEC_2 : Hid (Els w_2 S l C) := Lib.hid (KEC_1.out.below hbz)
  have KA_2 : Hid (Blk' w_2 (w.heap.size) 25 #[.int .i64 gt, .int .i64 gn, .int .i64 gs, .slice A rs.length c]) := Lib.hid (KA_1.out.below hbz KA_1.out.lt)
  have KB_2 : Hid (Blk' w_2 (w.heap.size + 1) 25 #[.int .i64 ht, .int .i64 hn, .int .i64 hs, .slice B rs2.length d]) := Lib.hid (KB_1.out.below hbz KB_1.out.lt)
  have KN_2 : Hid (Blk' w_2 (w.heap.size + 1 + 1) 3 #[.int .i64 nn]) := Lib.hid (KN_1.out.below hbz KN_1.out.lt)
  have QB_2 : Hid (Below w.heap.size w w_2) := Lib.hid (bthen QB_1.out hbz QB_1.out.size)
  have sz_2 : w_1.heap.size ≤ w_2.heap.size := (hbz).size
  clear hbz
  clear KEA_1 KEB_1 KEC_1 KA_1 KB_1 KN_1 QB_1
  go_wp2_with fail
  refine (of_any simpleG 0 As 2 _ _ (by decide) (by omega) HEs.out).mono ?_
  rintro e w_3 ⟨vs, he, hown, hbz⟩
  rw [simple_of] at hown
  rw [simple_whe] at he
  subst he
  obtain ⟨Ao1, co1, hvs, _, _, _⟩ := hown.form
  have hvs2 : vs = .slice Ao1 2 co1 := hvs
  clear hvs
  subst hvs2
  have HO1 := Lib.hid hown
  clear hown
  have KEA_3 : Hid (Els w_3 S rs A) := Lib.hid (KEA_2.out.below hbz)
  have KEB_3 : Hid (Els w_3 S rs2 B) := Lib.hid (KEB_2.out.below hbz)
  have KEC_3 : Hid (Els w_3 S l C) := Lib.hid (KEC_2.out.below hbz)
  have KA_3 : Hid (Blk' w_3 (w.heap.size) 25 #[.int .i64 gt, .int .i64 gn, .int .i64 gs, .slice A rs.length c]) := Lib.hid (KA_2.out.below hbz KA_2.out.lt)
  have KB_3 : Hid (Blk' w_3 (w.heap.size + 1) 25 #[.int .i64 ht, .int .i64 hn, .int .i64 hs, .slice B rs2.length d]) := Lib.hid (KB_2.out.below hbz KB_2.out.lt)
  have KN_3 : Hid (Blk' w_3 (w.heap.size + 1 + 1) 3 #[.int .i64 nn]) := Lib.hid (KN_2.out.below hbz KN_2.out.lt)
  have QB_3 : Hid (Below w.heap.size w w_3) := Lib.hid (bthen QB_2.out hbz QB_2.out.size)
  have sz_3 : w_2.heap.size ≤ w_3.heap.size := (hbz).size
  clear hbz
  clear KEA_2 KEB_2 KEC_2 KA_2 KB_2 KN_2 QB_2
  have hl1 : Below w_3.heap.size w_3 (w_3.alloc (.cells #[.int .i64 0, .int .i64 1] 3)) := (Below.refl _ _).alloc (Nat.le_refl _) _
  have HL1 : Hid (Els (w_3.alloc (.cells #[.int .i64 0, .int .i64 1] 3)) (fun _ => True) ([0, 1] : List Int) (some ⟨w_3.heap.size, 0, none⟩)) := Lib.hid (els_of_blk [[.int .i64 0], [.int .i64 1]] (Blk'.new _ _ _) rfl rfl (rd_two ⟨rfl, ⟨by decide, by decide⟩⟩ ⟨rfl, ⟨by decide, by decide⟩⟩) trivial)
  have HV1 := Lib.hid ((HO1.out.below hl1 (Nat.le_refl _)).vl.els.2.2.2)
  go_wp2_with fail
  refine (eq_trueC Ao1 _ [0, 1] [0, 1] 2 2 co1 _ _ _ _ rfl rfl rfl (by decide) HV1.out HL1.out).mono ?_
  rintro e w_9a ⟨rfl, hbz⟩
  have hbz2 := hl1.trans (hbz.mono (by simp))
  clear hbz hl1
  clear HL1 HV1 HO1
  have KEA_4 : Hid (Els w_9a S rs A) := Lib.hid (KEA_3.out.below hbz2)
  have KEB_4 : Hid (Els w_9a S rs2 B) := Lib.hid (KEB_3.out.below hbz2)
  have KEC_4 : Hid (Els w_9a S l C) := Lib.hid (KEC_3.out.below hbz2)
  have KA_4 : Hid (Blk' w_9a (w.heap.size) 25 #[.int .i64 gt, .int .i64 gn, .int .i64 gs, .slice A rs.length c]) := Lib.hid (KA_3.out.below hbz2 KA_3.out.lt)
  have KB_4 : Hid (Blk' w_9a (w.heap.size + 1) 25 #[.int .i64 ht, .int .i64 hn, .int .i64 hs, .slice B rs2.length d]) := Lib.hid (KB_3.out.below hbz2 KB_3.out.lt)
  have KN_4 : Hid (Blk' w_9a (w.heap.size + 1 + 1) 3 #[.int .i64 nn]) := Lib.hid (KN_3.out.below hbz2 KN_3.out.lt)
  have QB_4 : Hid (Below w.heap.size w w_9a) := Lib.hid (bthen QB_3.out hbz2 QB_3.out.size)
  have sz_4 : w_3.heap.size ≤ w_9a.heap.size := (hbz2).size
  clear hbz2
  clear KEA_3 KEB_3 KEC_3 KA_3 KB_3 KN_3 QB_3
  have cA_4_0 : w_9a.cell? ⟨w.heap.size, 0, none⟩ = some (.int .i64 gt) := KA_4.out.cell 0
  have cA_4_1 : w_9a.cell? ⟨w.heap.size, 1, none⟩ = some (.int .i64 gn) := KA_4.out.cell 1
  have cA_4_2 : w_9a.cell? ⟨w.heap.size, 2, none⟩ = some (.int .i64 gs) := KA_4.out.cell 2
  have cA_4_3 : w_9a.cell? ⟨w.heap.size, 3, none⟩ = some (.slice A rs.length c) := KA_4.out.cell 3
  have zA_4 : w.heap.size < w_9a.heap.size := KA_4.out.lt
  go_wp2_with fail
  refine (gramErr_any ⟨gt, gn, gs, rs⟩ A c S _ HI.out hlc hc KEA_4.out (fun b hb => by have := HS.out b hb; omega)).mono ?_
  rintro e w_5 ⟨rfl, hbz⟩
  clear cA_4_0 cA_4_1 cA_4_2 cA_4_3 zA_4
  have KEA_5 : Hid (Els w_5 S rs A) := Lib.hid (KEA_4.out.below hbz)
  have KEB_5 : Hid (Els w_5 S rs2 B) := Lib.hid (KEB_4.out.below hbz)
  have KEC_5 : Hid (Els w_5 S l C) := Lib.hid (KEC_4.out.below hbz)
  have KA_5 : Hid (Blk' w_5 (w.heap.size) 25 #[.int .i64 gt, .int .i64 gn, .int .i64 gs, .slice A rs.length c]) := Lib.hid (KA_4.out.below hbz KA_4.out.lt)
  have KB_5 : Hid (Blk' w_5 (w.heap.size + 1) 25 #[.int .i64 ht, .int .i64 hn, .int .i64 hs, .slice B rs2.length d]) := Lib.hid (KB_4.out.below hbz KB_4.out.lt)
  have KN_5 : Hid (Blk' w_5 (w.heap.size + 1 + 1) 3 #[.int .i64 nn]) := Lib.hid (KN_4.out.below hbz KN_4.out.lt)
  have QB_5 : Hid (Below w.heap.size w w_5) := Lib.hid (bthen QB_4.out hbz QB_4.out.size)
  have sz_5 : w_9a.heap.size ≤ w_5.heap.size := (hbz).size
  clear hbz
  clear KEA_4 KEB_4 KEC_4 KA_4 KB_4 KN_4 QB_4
  rw [← HE.out]
  have cA_5_0 : w_5.cell? ⟨w.heap.size, 0, none⟩ = some (.int .i64 gt) := KA_5.out.cell 0
  have cA_5_1 : w_5.cell? ⟨w.heap.size, 1, none⟩ = some (.int .i64 gn) := KA_5.out.cell 1
  have cA_5_2 : w_5.cell? ⟨w.heap.size, 2, none⟩ = some (.int .i64 gs) := KA_5.out.cell 2
  have cA_5_3 : w_5.cell? ⟨w.heap.size, 3, none⟩ = some (.slice A rs.length c) := KA_5.out.cell 3
  have zA_5 : w.heap.size < w_5.heap.size := KA_5.out.lt
  have cB_5_0 : w_5.cell? ⟨w.heap.size + 1, 0, none⟩ = some (.int .i64 ht) := KB_5.out.cell 0
  have cB_5_1 : w_5.cell? ⟨w.heap.size + 1, 1, none⟩ = some (.int .i64 hn) := KB_5.out.cell 1
  have cB_5_2 : w_5.cell? ⟨w.heap.size + 1, 2, none⟩ = some (.int .i64 hs) := KB_5.out.cell 2
  have cB_5_3 : w_5.cell? ⟨w.heap.size + 1, 3, none⟩ = some (.slice B rs2.length d) := KB_5.out.cell 3
  have zB_5 : w.heap.size + 1 < w_5.heap.size := KB_5.out.lt
  go_wp2_with fail
  refine wp_region_noPanic ?_
  refine wp_region_held_drew (S := (fun w' => w'.cell? ⟨w.heap.size, 0, none⟩ = some (.int .i64 gt) ∧ w'.cell? ⟨w.heap.size, 1, none⟩ = some (.int .i64 gn) ∧ w'.cell? ⟨w.heap.size, 2, none⟩ = some (.int .i64 gs) ∧ w'.cell? ⟨w.heap.size, 3, none⟩ = some (.slice A rs.length c) ∧ w'.cell? ⟨w.heap.size + 1, 0, none⟩ = some (.int .i64 ht) ∧ w'.cell? ⟨w.heap.size + 1, 1, none⟩ = some (.int .i64 hn) ∧ w'.cell? ⟨w.heap.size + 1, 2, none⟩ = some (.int .i64 hs) ∧ w'.cell? ⟨w.heap.size + 1, 3, none⟩ = some (.slice B rs2.length d))) (by kernel_rfl) ?hq (fun hHeld => ?bq)
  case hq => ((try dsimp only); go_keep)
  have HQ0 : Hid (Below w_5.heap.size w_5 w_5) := Lib.hid (Below.refl _ _)
  refine take_run (i := 0) (v := ?vq0) rfl (by kernel_rfl) (by kernel_rfl) (by kernel_rfl) (fun _ _ _ h => h) (by rfl) ?yq0 (by assumption) ?rq0
  case yq0 => (intro w hSw; (try dsimp only at hSw); go_simp; try with_reducible rfl)
  try simp only [Act.put, List.setIfInBounds_toArray, List.set_cons_zero, List.set_cons_succ]
  refine take_run (i := 2) (v := ?vq2) rfl (by kernel_rfl) (by kernel_rfl) (by kernel_rfl) (fun _ _ _ h => h) (by rfl) ?yq2 (by assumption) ?rq2
  case yq2 => (intro w hSw; (try dsimp only at hSw); go_simp; try with_reducible rfl)
  try simp only [Act.put, List.setIfInBounds_toArray, List.set_cons_zero, List.set_cons_succ]
  refine take_call (i := 1) rfl (by kernel_rfl) (by rfl) (fun Kq hK => ?_)
  go_simp
  go_at_call 41
  refine (check_any ⟨gt, gn, gs, rs⟩ A c S _ hlc hc (KEA_5.out.below (Below.refl _ _).drew)).mono ?_
  rintro e wq1 ⟨rfl, hbr⟩
  rw [← HE.out]
  have HQ1 : Hid (Below w_5.heap.size w_5 wq1) := Lib.hid (bundrew hbr)
  have qa1_0 : wq1.cell? ⟨w.heap.size, 0, none⟩ = some (.int .i64 gt) := (HQ1.out.cell (p := ⟨w.heap.size, 0, none⟩) zA_5).trans cA_5_0
  have qa1_1 : wq1.cell? ⟨w.heap.size, 1, none⟩ = some (.int .i64 gn) := (HQ1.out.cell (p := ⟨w.heap.size, 1, none⟩) zA_5).trans cA_5_1
  have qa1_2 : wq1.cell? ⟨w.heap.size, 2, none⟩ = some (.int .i64 gs) := (HQ1.out.cell (p := ⟨w.heap.size, 2, none⟩) zA_5).trans cA_5_2
  have qa1_3 : wq1.cell? ⟨w.heap.size, 3, none⟩ = some (.slice A rs.length c) := (HQ1.out.cell (p := ⟨w.heap.size, 3, none⟩) zA_5).trans cA_5_3
  have qb1_0 : wq1.cell? ⟨w.heap.size + 1, 0, none⟩ = some (.int .i64 ht) := (HQ1.out.cell (p := ⟨w.heap.size + 1, 0, none⟩) zB_5).trans cB_5_0
  have qb1_1 : wq1.cell? ⟨w.heap.size + 1, 1, none⟩ = some (.int .i64 hn) := (HQ1.out.cell (p := ⟨w.heap.size + 1, 1, none⟩) zB_5).trans cB_5_1
  have qb1_2 : wq1.cell? ⟨w.heap.size + 1, 2, none⟩ = some (.int .i64 hs) := (HQ1.out.cell (p := ⟨w.heap.size + 1, 2, none⟩) zB_5).trans cB_5_2
  have qb1_3 : wq1.cell? ⟨w.heap.size + 1, 3, none⟩ = some (.slice B rs2.length d) := (HQ1.out.cell (p := ⟨w.heap.size + 1, 3, none⟩) zB_5).trans cB_5_3
  clear hbr
  refine hK.out _ _ ?hq1 (fun hHeld => ?rq1)
  case hq1 => ((try dsimp only); go_keep)
  clear hK Kq
  try simp only [Act.put, List.setIfInBounds_toArray, List.set_cons_zero, List.set_cons_succ]
  refine take_run (i := 3) (v := ?vq3) rfl (by kernel_rfl) (by kernel_rfl) (by kernel_rfl) (fun _ _ _ h => h) (by rfl) ?yq3 (by assumption) ?rq3
  case yq3 => (intro w hSw; (try dsimp only at hSw); go_simp; try with_reducible rfl)
  try simp only [Act.put, List.setIfInBounds_toArray, List.set_cons_zero, List.set_cons_succ]
  refine take_run (i := 4) (v := ?vq4) rfl (by kernel_rfl) (by kernel_rfl) (by kernel_rfl) (fun _ _ _ h => h) (by rfl) ?yq4 (by assumption) ?rq4
  case yq4 => (intro w hSw; (try dsimp only at hSw); go_simp; try with_reducible rfl)
  try simp only [Act.put, List.setIfInBounds_toArray, List.set_cons_zero, List.set_cons_succ]
  refine take_run (i := 5) (v := ?vq5) rfl (by kernel_rfl) (by kernel_rfl) (by kernel_rfl) (fun _ _ _ h => h) (by rfl) ?yq5 (by assumption) ?rq5
  case yq5 => (intro w hSw; (try dsimp only at hSw); go_simp; try with_reducible rfl)
  try simp only [Act.put, List.setIfInBounds_toArray, List.set_cons_zero, List.set_cons_succ]
  refine take_run (i := 6) (v := ?vq6) rfl (by kernel_rfl) (by kernel_rfl) (by kernel_rfl) (fun _ _ _ h => h) (by rfl) ?yq6 (by assumption) ?rq6
  case yq6 => (intro w hSw; (try dsimp only at hSw); go_simp; try with_reducible rfl)
  try simp only [Act.put, List.setIfInBounds_toArray, List.set_cons_zero, List.set_cons_succ]
  refine take_run (i := 7) (v := ?vq7) rfl (by kernel_rfl) (by kernel_rfl) (by kernel_rfl) (fun _ _ _ h => h) (by rfl) ?yq7 (by assumption) ?rq7
  case yq7 => (intro w hSw; (try dsimp only at hSw); go_simp; try with_reducible rfl)
  try simp only [Act.put, List.setIfInBounds_toArray, List.set_cons_zero, List.set_cons_succ]
  refine take_run (i := 9) (v := ?vq9) rfl (by kernel_rfl) (by kernel_rfl) (by kernel_rfl) (fun _ _ _ h => h) (by rfl) ?yq9 (by assumption) ?rq9
  case yq9 => (intro w hSw; (try dsimp only at hSw); go_simp; try with_reducible rfl)
  try simp only [Act.put, List.setIfInBounds_toArray, List.set_cons_zero, List.set_cons_succ]
  refine take_run (i := 10) (v := ?vq10) rfl (by kernel_rfl) (by kernel_rfl) (by kernel_rfl) (fun _ _ _ h => h) (by rfl) ?yq10 (by assumption) ?rq10
  case yq10 => (intro w hSw; (try dsimp only at hSw); go_simp; try with_reducible rfl)
  try simp only [Act.put, List.setIfInBounds_toArray, List.set_cons_zero, List.set_cons_succ]
  refine take_run (i := 11) (v := ?vq11) rfl (by kernel_rfl) (by kernel_rfl) (by kernel_rfl) (fun _ _ _ h => h) (by rfl) ?yq11 (by assumption) ?rq11
  case yq11 => (intro w hSw; (try dsimp only at hSw); go_simp; try with_reducible rfl)
  try simp only [Act.put, List.setIfInBounds_toArray, List.set_cons_zero, List.set_cons_succ]
  refine take_call (i := 8) rfl (by kernel_rfl) (by rfl) (fun Kq hK => ?_)
  go_simp
  go_at_call 42
  refine (word_any gt gn gs most (.slice A rs.length c) l C f S _ (by omega) (KEC_5.out.below HQ1.out) (fun b hb => by have h1 := HS.out b hb; have h2 := HQ1.out.size; omega) ⟨_, _, _, rfl⟩).mono ?_
  rintro e wq2 ⟨rfl, hbr⟩
  rw [← HWE.out]
  have HQ2 : Hid (Below w_5.heap.size w_5 wq2) := Lib.hid (bthen HQ1.out hbr HQ1.out.size)
  have qa2_0 : wq2.cell? ⟨w.heap.size, 0, none⟩ = some (.int .i64 gt) := (HQ2.out.cell (p := ⟨w.heap.size, 0, none⟩) zA_5).trans cA_5_0
  have qa2_1 : wq2.cell? ⟨w.heap.size, 1, none⟩ = some (.int .i64 gn) := (HQ2.out.cell (p := ⟨w.heap.size, 1, none⟩) zA_5).trans cA_5_1
  have qa2_2 : wq2.cell? ⟨w.heap.size, 2, none⟩ = some (.int .i64 gs) := (HQ2.out.cell (p := ⟨w.heap.size, 2, none⟩) zA_5).trans cA_5_2
  have qa2_3 : wq2.cell? ⟨w.heap.size, 3, none⟩ = some (.slice A rs.length c) := (HQ2.out.cell (p := ⟨w.heap.size, 3, none⟩) zA_5).trans cA_5_3
  have qb2_0 : wq2.cell? ⟨w.heap.size + 1, 0, none⟩ = some (.int .i64 ht) := (HQ2.out.cell (p := ⟨w.heap.size + 1, 0, none⟩) zB_5).trans cB_5_0
  have qb2_1 : wq2.cell? ⟨w.heap.size + 1, 1, none⟩ = some (.int .i64 hn) := (HQ2.out.cell (p := ⟨w.heap.size + 1, 1, none⟩) zB_5).trans cB_5_1
  have qb2_2 : wq2.cell? ⟨w.heap.size + 1, 2, none⟩ = some (.int .i64 hs) := (HQ2.out.cell (p := ⟨w.heap.size + 1, 2, none⟩) zB_5).trans cB_5_2
  have qb2_3 : wq2.cell? ⟨w.heap.size + 1, 3, none⟩ = some (.slice B rs2.length d) := (HQ2.out.cell (p := ⟨w.heap.size + 1, 3, none⟩) zB_5).trans cB_5_3
  clear hbr
  clear qa1_0 qb1_0 qa1_1 qb1_1 qa1_2 qb1_2 qa1_3 qb1_3
  refine hK.out _ _ ?hq8 (fun hHeld => ?rq8)
  case hq8 => ((try dsimp only); go_keep)
  clear hK Kq
  try simp only [Act.put, List.setIfInBounds_toArray, List.set_cons_zero, List.set_cons_succ]
  refine take_call (i := 12) rfl (by kernel_rfl) (by rfl) (fun Kq hK => ?_)
  go_simp
  go_at_call 43
  refine (wordErr_any gt gn gs most (.slice A rs.length c) l C f S _ (by omega) (KEC_5.out.below HQ2.out) (fun b hb => by have h1 := HS.out b hb; have h2 := HQ2.out.size; omega) ⟨_, _, _, rfl⟩).mono ?_
  rintro e wq3 ⟨rfl, hbr⟩
  rw [← HWE.out]
  have HQ3 : Hid (Below w_5.heap.size w_5 wq3) := Lib.hid (bthen HQ2.out hbr HQ2.out.size)
  have qa3_0 : wq3.cell? ⟨w.heap.size, 0, none⟩ = some (.int .i64 gt) := (HQ3.out.cell (p := ⟨w.heap.size, 0, none⟩) zA_5).trans cA_5_0
  have qa3_1 : wq3.cell? ⟨w.heap.size, 1, none⟩ = some (.int .i64 gn) := (HQ3.out.cell (p := ⟨w.heap.size, 1, none⟩) zA_5).trans cA_5_1
  have qa3_2 : wq3.cell? ⟨w.heap.size, 2, none⟩ = some (.int .i64 gs) := (HQ3.out.cell (p := ⟨w.heap.size, 2, none⟩) zA_5).trans cA_5_2
  have qa3_3 : wq3.cell? ⟨w.heap.size, 3, none⟩ = some (.slice A rs.length c) := (HQ3.out.cell (p := ⟨w.heap.size, 3, none⟩) zA_5).trans cA_5_3
  have qb3_0 : wq3.cell? ⟨w.heap.size + 1, 0, none⟩ = some (.int .i64 ht) := (HQ3.out.cell (p := ⟨w.heap.size + 1, 0, none⟩) zB_5).trans cB_5_0
  have qb3_1 : wq3.cell? ⟨w.heap.size + 1, 1, none⟩ = some (.int .i64 hn) := (HQ3.out.cell (p := ⟨w.heap.size + 1, 1, none⟩) zB_5).trans cB_5_1
  have qb3_2 : wq3.cell? ⟨w.heap.size + 1, 2, none⟩ = some (.int .i64 hs) := (HQ3.out.cell (p := ⟨w.heap.size + 1, 2, none⟩) zB_5).trans cB_5_2
  have qb3_3 : wq3.cell? ⟨w.heap.size + 1, 3, none⟩ = some (.slice B rs2.length d) := (HQ3.out.cell (p := ⟨w.heap.size + 1, 3, none⟩) zB_5).trans cB_5_3
  clear hbr
  clear qa2_0 qb2_0 qa2_1 qb2_1 qa2_2 qb2_2 qa2_3 qb2_3
  refine hK.out _ _ ?hq12 (fun hHeld => ?rq12)
  case hq12 => ((try dsimp only); go_keep)
  clear hK Kq
  try simp only [Act.put, List.setIfInBounds_toArray, List.set_cons_zero, List.set_cons_succ]
  refine take_run (i := 13) (v := ?vq13) rfl (by kernel_rfl) (by kernel_rfl) (by kernel_rfl) (fun _ _ _ h => h) (by rfl) ?yq13 (by assumption) ?rq13
  case yq13 => (intro w hSw; (try dsimp only at hSw); go_simp; try with_reducible rfl)
  try simp only [Act.put, List.setIfInBounds_toArray, List.set_cons_zero, List.set_cons_succ]
  refine take_run (i := 14) (v := ?vq14) rfl (by kernel_rfl) (by kernel_rfl) (by kernel_rfl) (fun _ _ _ h => h) (by rfl) ?yq14 (by assumption) ?rq14
  case yq14 => (intro w hSw; (try dsimp only at hSw); go_simp; try with_reducible rfl)
  try simp only [Act.put, List.setIfInBounds_toArray, List.set_cons_zero, List.set_cons_succ]
  refine take_run (i := 15) (v := ?vq15) rfl (by kernel_rfl) (by kernel_rfl) (by kernel_rfl) (fun _ _ _ h => h) (by rfl) ?yq15 (by assumption) ?rq15
  case yq15 => (intro w hSw; (try dsimp only at hSw); go_simp; try with_reducible rfl)
  try simp only [Act.put, List.setIfInBounds_toArray, List.set_cons_zero, List.set_cons_succ]
  refine take_run (i := 16) (v := ?vq16) rfl (by kernel_rfl) (by kernel_rfl) (by kernel_rfl) (fun _ _ _ h => h) (by rfl) ?yq16 (by assumption) ?rq16
  case yq16 => (intro w hSw; (try dsimp only at hSw); go_simp; try with_reducible rfl)
  try simp only [Act.put, List.setIfInBounds_toArray, List.set_cons_zero, List.set_cons_succ]
  refine take_run (i := 17) (v := ?vq17) rfl (by kernel_rfl) (by kernel_rfl) (by kernel_rfl) (fun _ _ _ h => h) (by rfl) ?yq17 (by assumption) ?rq17
  case yq17 => (intro w hSw; (try dsimp only at hSw); go_simp; try with_reducible rfl)
  try simp only [Act.put, List.setIfInBounds_toArray, List.set_cons_zero, List.set_cons_succ]
  refine take_run (i := 19) (v := ?vq19) rfl (by kernel_rfl) (by kernel_rfl) (by kernel_rfl) (fun _ _ _ h => h) (by rfl) ?yq19 (by assumption) ?rq19
  case yq19 => (intro w hSw; (try dsimp only at hSw); go_simp; try with_reducible rfl)
  try simp only [Act.put, List.setIfInBounds_toArray, List.set_cons_zero, List.set_cons_succ]
  refine take_run (i := 20) (v := ?vq20) rfl (by kernel_rfl) (by kernel_rfl) (by kernel_rfl) (fun _ _ _ h => h) (by rfl) ?yq20 (by assumption) ?rq20
  case yq20 => (intro w hSw; (try dsimp only at hSw); go_simp; try with_reducible rfl)
  try simp only [Act.put, List.setIfInBounds_toArray, List.set_cons_zero, List.set_cons_succ]
  refine take_call (i := 18) rfl (by kernel_rfl) (by rfl) (fun Kq hK => ?_)
  go_simp
  go_at_call 44
  refine (gSame_any ⟨gt, gn, gs, rs⟩ ⟨ht, hn, hs, rs2⟩ A B c d S S _ ⟨hlc, hc⟩ ⟨hld, hd⟩ (KEA_5.out.below HQ3.out) (KEB_5.out.below HQ3.out)).mono ?_
  rintro e wq4 ⟨rfl, hbr⟩
  rw [← HSB.out]
  have HQ4 : Hid (Below w_5.heap.size w_5 wq4) := Lib.hid (bthen HQ3.out hbr HQ3.out.size)
  have qa4_0 : wq4.cell? ⟨w.heap.size, 0, none⟩ = some (.int .i64 gt) := (HQ4.out.cell (p := ⟨w.heap.size, 0, none⟩) zA_5).trans cA_5_0
  have qa4_1 : wq4.cell? ⟨w.heap.size, 1, none⟩ = some (.int .i64 gn) := (HQ4.out.cell (p := ⟨w.heap.size, 1, none⟩) zA_5).trans cA_5_1
  have qa4_2 : wq4.cell? ⟨w.heap.size, 2, none⟩ = some (.int .i64 gs) := (HQ4.out.cell (p := ⟨w.heap.size, 2, none⟩) zA_5).trans cA_5_2
  have qa4_3 : wq4.cell? ⟨w.heap.size, 3, none⟩ = some (.slice A rs.length c) := (HQ4.out.cell (p := ⟨w.heap.size, 3, none⟩) zA_5).trans cA_5_3
  have qb4_0 : wq4.cell? ⟨w.heap.size + 1, 0, none⟩ = some (.int .i64 ht) := (HQ4.out.cell (p := ⟨w.heap.size + 1, 0, none⟩) zB_5).trans cB_5_0
  have qb4_1 : wq4.cell? ⟨w.heap.size + 1, 1, none⟩ = some (.int .i64 hn) := (HQ4.out.cell (p := ⟨w.heap.size + 1, 1, none⟩) zB_5).trans cB_5_1
  have qb4_2 : wq4.cell? ⟨w.heap.size + 1, 2, none⟩ = some (.int .i64 hs) := (HQ4.out.cell (p := ⟨w.heap.size + 1, 2, none⟩) zB_5).trans cB_5_2
  have qb4_3 : wq4.cell? ⟨w.heap.size + 1, 3, none⟩ = some (.slice B rs2.length d) := (HQ4.out.cell (p := ⟨w.heap.size + 1, 3, none⟩) zB_5).trans cB_5_3
  clear hbr
  clear qa3_0 qb3_0 qa3_1 qb3_1 qa3_2 qb3_2 qa3_3 qb3_3
  refine hK.out _ _ ?hq18 (fun hHeld => ?rq18)
  case hq18 => ((try dsimp only); go_keep)
  clear hK Kq
  try simp only [Act.put, List.setIfInBounds_toArray, List.set_cons_zero, List.set_cons_succ]
  refine take_call (i := 21) rfl (by kernel_rfl) (by rfl) (fun Kq hK => ?_)
  go_simp
  go_at_call 26
  refine (sameGram_any ⟨gt, gn, gs, rs⟩ ⟨ht, hn, hs, rs2⟩ A B c d S S _ ⟨hlc, hc⟩ ⟨hld, hd⟩ (KEA_5.out.below HQ4.out) (KEB_5.out.below HQ4.out)).mono ?_
  rintro e wq5 ⟨rfl, hbr⟩
  rw [← HSB.out]
  have HQ5 : Hid (Below w_5.heap.size w_5 wq5) := Lib.hid (bthen HQ4.out hbr HQ4.out.size)
  have qa5_0 : wq5.cell? ⟨w.heap.size, 0, none⟩ = some (.int .i64 gt) := (HQ5.out.cell (p := ⟨w.heap.size, 0, none⟩) zA_5).trans cA_5_0
  have qa5_1 : wq5.cell? ⟨w.heap.size, 1, none⟩ = some (.int .i64 gn) := (HQ5.out.cell (p := ⟨w.heap.size, 1, none⟩) zA_5).trans cA_5_1
  have qa5_2 : wq5.cell? ⟨w.heap.size, 2, none⟩ = some (.int .i64 gs) := (HQ5.out.cell (p := ⟨w.heap.size, 2, none⟩) zA_5).trans cA_5_2
  have qa5_3 : wq5.cell? ⟨w.heap.size, 3, none⟩ = some (.slice A rs.length c) := (HQ5.out.cell (p := ⟨w.heap.size, 3, none⟩) zA_5).trans cA_5_3
  have qb5_0 : wq5.cell? ⟨w.heap.size + 1, 0, none⟩ = some (.int .i64 ht) := (HQ5.out.cell (p := ⟨w.heap.size + 1, 0, none⟩) zB_5).trans cB_5_0
  have qb5_1 : wq5.cell? ⟨w.heap.size + 1, 1, none⟩ = some (.int .i64 hn) := (HQ5.out.cell (p := ⟨w.heap.size + 1, 1, none⟩) zB_5).trans cB_5_1
  have qb5_2 : wq5.cell? ⟨w.heap.size + 1, 2, none⟩ = some (.int .i64 hs) := (HQ5.out.cell (p := ⟨w.heap.size + 1, 2, none⟩) zB_5).trans cB_5_2
  have qb5_3 : wq5.cell? ⟨w.heap.size + 1, 3, none⟩ = some (.slice B rs2.length d) := (HQ5.out.cell (p := ⟨w.heap.size + 1, 3, none⟩) zB_5).trans cB_5_3
  clear hbr
  clear qa4_0 qb4_0 qa4_1 qb4_1 qa4_2 qb4_2 qa4_3 qb4_3
  refine hK.out _ _ ?hq21 (fun hHeld => ?rq21)
  case hq21 => ((try dsimp only); go_keep)
  clear hK Kq
  try simp only [Act.put, List.setIfInBounds_toArray, List.set_cons_zero, List.set_cons_succ]
  refine take_run (i := 22) (v := ?vq22) rfl (by kernel_rfl) (by kernel_rfl) (by kernel_rfl) (fun _ _ _ h => h) (by rfl) ?yq22 (by assumption) ?rq22
  case yq22 => (intro w hSw; (try dsimp only at hSw); go_simp; try with_reducible rfl)
  try simp only [Act.put, List.setIfInBounds_toArray, List.set_cons_zero, List.set_cons_succ]
  refine take_run (i := 23) (v := ?vq23) rfl (by kernel_rfl) (by kernel_rfl) (by kernel_rfl) (fun _ _ _ h => h) (by rfl) ?yq23 (by assumption) ?rq23
  case yq23 => (intro w hSw; (try dsimp only at hSw); go_simp; try with_reducible rfl)
  try simp only [Act.put, List.setIfInBounds_toArray, List.set_cons_zero, List.set_cons_succ]
  refine take_run (i := 24) (v := ?vq24) rfl (by kernel_rfl) (by kernel_rfl) (by kernel_rfl) (fun _ _ _ h => h) (by rfl) ?yq24 (by assumption) ?rq24
  case yq24 => (intro w hSw; (try dsimp only at hSw); go_simp; try with_reducible rfl)
  try simp only [Act.put, List.setIfInBounds_toArray, List.set_cons_zero, List.set_cons_succ]
  refine take_run (i := 25) (v := ?vq25) rfl (by kernel_rfl) (by kernel_rfl) (by kernel_rfl) (fun _ _ _ h => h) (by rfl) ?yq25 (by assumption) ?rq25
  case yq25 => (intro w hSw; (try dsimp only at hSw); go_simp; try with_reducible rfl)
  try simp only [Act.put, List.setIfInBounds_toArray, List.set_cons_zero, List.set_cons_succ]
  refine take_run (i := 26) (v := ?vq26) rfl (by kernel_rfl) (by kernel_rfl) (by kernel_rfl) (fun _ _ _ h => h) (by rfl) ?yq26 (by assumption) ?rq26
  case yq26 => (intro w hSw; (try dsimp only at hSw); go_simp; try with_reducible rfl)
  try simp only [Act.put, List.setIfInBounds_toArray, List.set_cons_zero, List.set_cons_succ]
  refine take_call (i := 27) rfl (by kernel_rfl) (by rfl) (fun Kq hK => ?_)
  go_simp
  go_at_call 44
  refine (gSame_true ⟨gt, gn, gs, rs⟩ A A c c S S _ ⟨hlc, hc⟩ ⟨hlc, hc⟩ (KEA_5.out.below HQ5.out) (KEA_5.out.below HQ5.out)).mono ?_
  rintro e wq6 ⟨rfl, hbr⟩
  have HQ6 : Hid (Below w_5.heap.size w_5 wq6) := Lib.hid (bthen HQ5.out hbr HQ5.out.size)
  have qa6_0 : wq6.cell? ⟨w.heap.size, 0, none⟩ = some (.int .i64 gt) := (HQ6.out.cell (p := ⟨w.heap.size, 0, none⟩) zA_5).trans cA_5_0
  have qa6_1 : wq6.cell? ⟨w.heap.size, 1, none⟩ = some (.int .i64 gn) := (HQ6.out.cell (p := ⟨w.heap.size, 1, none⟩) zA_5).trans cA_5_1
  have qa6_2 : wq6.cell? ⟨w.heap.size, 2, none⟩ = some (.int .i64 gs) := (HQ6.out.cell (p := ⟨w.heap.size, 2, none⟩) zA_5).trans cA_5_2
  have qa6_3 : wq6.cell? ⟨w.heap.size, 3, none⟩ = some (.slice A rs.length c) := (HQ6.out.cell (p := ⟨w.heap.size, 3, none⟩) zA_5).trans cA_5_3
  have qb6_0 : wq6.cell? ⟨w.heap.size + 1, 0, none⟩ = some (.int .i64 ht) := (HQ6.out.cell (p := ⟨w.heap.size + 1, 0, none⟩) zB_5).trans cB_5_0
  have qb6_1 : wq6.cell? ⟨w.heap.size + 1, 1, none⟩ = some (.int .i64 hn) := (HQ6.out.cell (p := ⟨w.heap.size + 1, 1, none⟩) zB_5).trans cB_5_1
  have qb6_2 : wq6.cell? ⟨w.heap.size + 1, 2, none⟩ = some (.int .i64 hs) := (HQ6.out.cell (p := ⟨w.heap.size + 1, 2, none⟩) zB_5).trans cB_5_2
  have qb6_3 : wq6.cell? ⟨w.heap.size + 1, 3, none⟩ = some (.slice B rs2.length d) := (HQ6.out.cell (p := ⟨w.heap.size + 1, 3, none⟩) zB_5).trans cB_5_3
  clear hbr
  clear qa5_0 qb5_0 qa5_1 qb5_1 qa5_2 qb5_2 qa5_3 qb5_3
  refine hK.out _ _ ?hq27 (fun hHeld => ?rq27)
  case hq27 => ((try dsimp only); go_keep)
  clear hK Kq
  try simp only [Act.put, List.setIfInBounds_toArray, List.set_cons_zero, List.set_cons_succ]
  refine take_run (i := 28) (v := ?vq28) rfl (by kernel_rfl) (by kernel_rfl) (by kernel_rfl) (fun _ _ _ h => h) (by rfl) ?yq28 (by assumption) ?rq28
  case yq28 => (intro w hSw; (try dsimp only at hSw); go_simp; try with_reducible rfl)
  try simp only [Act.put, List.setIfInBounds_toArray, List.set_cons_zero, List.set_cons_succ]
  refine take_run (i := 29) (v := ?vq29) rfl (by kernel_rfl) (by kernel_rfl) (by kernel_rfl) (fun _ _ _ h => h) (by rfl) ?yq29 (by assumption) ?rq29
  case yq29 => (intro w hSw; (try dsimp only at hSw); go_simp; try with_reducible rfl)
  try simp only [Act.put, List.setIfInBounds_toArray, List.set_cons_zero, List.set_cons_succ]
  refine take_run (i := 30) (v := ?vq30) rfl (by kernel_rfl) (by kernel_rfl) (by kernel_rfl) (fun _ _ _ h => h) (by rfl) ?yq30 (by assumption) ?rq30
  case yq30 => (intro w hSw; (try dsimp only at hSw); go_simp; try with_reducible rfl)
  try simp only [Act.put, List.setIfInBounds_toArray, List.set_cons_zero, List.set_cons_succ]
  refine take_run (i := 31) (v := ?vq31) rfl (by kernel_rfl) (by kernel_rfl) (by kernel_rfl) (fun _ _ _ h => h) (by rfl) ?yq31 (by assumption) ?rq31
  case yq31 => (intro w hSw; (try dsimp only at hSw); go_simp; try with_reducible rfl)
  try simp only [Act.put, List.setIfInBounds_toArray, List.set_cons_zero, List.set_cons_succ]
  refine take_run (i := 33) (v := ?vq33) rfl (by kernel_rfl) (by kernel_rfl) (by kernel_rfl) (fun _ _ _ h => h) (by rfl) ?yq33 (by assumption) ?rq33
  case yq33 => (intro w hSw; (try dsimp only at hSw); go_simp; try with_reducible rfl)
  try simp only [Act.put, List.setIfInBounds_toArray, List.set_cons_zero, List.set_cons_succ]
  refine take_call (i := 32) rfl (by kernel_rfl) (by rfl) (fun Kq hK => ?_)
  go_simp
  go_at_call 45
  refine (copyW_any gt gn gs rs A c S _ HBK.out.1 HBK.out.2 hlc hc (KEA_5.out.below HQ6.out) (fun b hb => by have h1 := HS.out b hb; have h2 := HQ6.out.size; omega)).mono ?_
  rintro e wq7 ⟨v9, rfl, hown9, hbr⟩
  obtain ⟨A9, c9, hv9, hc91, hc92, _⟩ := hown9.form
  subst hv9
  have HO9 := Lib.hid hown9
  have HC9 := Lib.hid (And.intro hc91 hc92)
  clear hown9 hc91 hc92
  have HQ7 : Hid (Below w_5.heap.size w_5 wq7) := Lib.hid (bthen HQ6.out hbr HQ6.out.size)
  have qa7_0 : wq7.cell? ⟨w.heap.size, 0, none⟩ = some (.int .i64 gt) := (HQ7.out.cell (p := ⟨w.heap.size, 0, none⟩) zA_5).trans cA_5_0
  have qa7_1 : wq7.cell? ⟨w.heap.size, 1, none⟩ = some (.int .i64 gn) := (HQ7.out.cell (p := ⟨w.heap.size, 1, none⟩) zA_5).trans cA_5_1
  have qa7_2 : wq7.cell? ⟨w.heap.size, 2, none⟩ = some (.int .i64 gs) := (HQ7.out.cell (p := ⟨w.heap.size, 2, none⟩) zA_5).trans cA_5_2
  have qa7_3 : wq7.cell? ⟨w.heap.size, 3, none⟩ = some (.slice A rs.length c) := (HQ7.out.cell (p := ⟨w.heap.size, 3, none⟩) zA_5).trans cA_5_3
  have qb7_0 : wq7.cell? ⟨w.heap.size + 1, 0, none⟩ = some (.int .i64 ht) := (HQ7.out.cell (p := ⟨w.heap.size + 1, 0, none⟩) zB_5).trans cB_5_0
  have qb7_1 : wq7.cell? ⟨w.heap.size + 1, 1, none⟩ = some (.int .i64 hn) := (HQ7.out.cell (p := ⟨w.heap.size + 1, 1, none⟩) zB_5).trans cB_5_1
  have qb7_2 : wq7.cell? ⟨w.heap.size + 1, 2, none⟩ = some (.int .i64 hs) := (HQ7.out.cell (p := ⟨w.heap.size + 1, 2, none⟩) zB_5).trans cB_5_2
  have qb7_3 : wq7.cell? ⟨w.heap.size + 1, 3, none⟩ = some (.slice B rs2.length d) := (HQ7.out.cell (p := ⟨w.heap.size + 1, 3, none⟩) zB_5).trans cB_5_3
  clear hbr
  clear qa6_0 qb6_0 qa6_1 qb6_1 qa6_2 qb6_2 qa6_3 qb6_3
  refine hK.out _ _ ?hq32 (fun hHeld => ?rq32)
  case hq32 => ((try dsimp only); go_keep)
  clear hK Kq
  try simp only [Act.put, List.setIfInBounds_toArray, List.set_cons_zero, List.set_cons_succ]
  refine take_call (i := 34) rfl (by kernel_rfl) (by rfl) (fun Kq hK => ?_)
  go_simp
  go_at_call 26
  refine (sameG_true ⟨gt, gn, gs, rs⟩ ⟨gt, gn, gs, rs⟩ A9 A c9 c _ S _ rfl HC9.out ⟨hlc, hc⟩ HO9.out.vl.els.2.2.2 (KEA_5.out.below HQ7.out)).mono ?_
  rintro e wq8 ⟨rfl, hbr⟩
  have HQ8 : Hid (Below w_5.heap.size w_5 wq8) := Lib.hid (bthen HQ7.out hbr HQ7.out.size)
  have qa8_0 : wq8.cell? ⟨w.heap.size, 0, none⟩ = some (.int .i64 gt) := (HQ8.out.cell (p := ⟨w.heap.size, 0, none⟩) zA_5).trans cA_5_0
  have qa8_1 : wq8.cell? ⟨w.heap.size, 1, none⟩ = some (.int .i64 gn) := (HQ8.out.cell (p := ⟨w.heap.size, 1, none⟩) zA_5).trans cA_5_1
  have qa8_2 : wq8.cell? ⟨w.heap.size, 2, none⟩ = some (.int .i64 gs) := (HQ8.out.cell (p := ⟨w.heap.size, 2, none⟩) zA_5).trans cA_5_2
  have qa8_3 : wq8.cell? ⟨w.heap.size, 3, none⟩ = some (.slice A rs.length c) := (HQ8.out.cell (p := ⟨w.heap.size, 3, none⟩) zA_5).trans cA_5_3
  have qb8_0 : wq8.cell? ⟨w.heap.size + 1, 0, none⟩ = some (.int .i64 ht) := (HQ8.out.cell (p := ⟨w.heap.size + 1, 0, none⟩) zB_5).trans cB_5_0
  have qb8_1 : wq8.cell? ⟨w.heap.size + 1, 1, none⟩ = some (.int .i64 hn) := (HQ8.out.cell (p := ⟨w.heap.size + 1, 1, none⟩) zB_5).trans cB_5_1
  have qb8_2 : wq8.cell? ⟨w.heap.size + 1, 2, none⟩ = some (.int .i64 hs) := (HQ8.out.cell (p := ⟨w.heap.size + 1, 2, none⟩) zB_5).trans cB_5_2
  have qb8_3 : wq8.cell? ⟨w.heap.size + 1, 3, none⟩ = some (.slice B rs2.length d) := (HQ8.out.cell (p := ⟨w.heap.size + 1, 3, none⟩) zB_5).trans cB_5_3
  clear hbr
  clear qa7_0 qb7_0 qa7_1 qb7_1 qa7_2 qb7_2 qa7_3 qb7_3
  refine hK.out _ _ ?hq34 (fun hHeld => ?rq34)
  case hq34 => ((try dsimp only); go_keep)
  clear hK Kq
  try simp only [Act.put, List.setIfInBounds_toArray, List.set_cons_zero, List.set_cons_succ]
  refine take_run (i := 35) (v := ?vq35) rfl (by kernel_rfl) (by kernel_rfl) (by kernel_rfl) (fun _ _ _ h => h) (by rfl) ?yq35 (by assumption) ?rq35
  case yq35 => (intro w hSw; (try dsimp only at hSw); go_simp; try with_reducible rfl)
  try simp only [Act.put, List.setIfInBounds_toArray, List.set_cons_zero, List.set_cons_succ]
  refine take_run (i := 36) (v := ?vq36) rfl (by kernel_rfl) (by kernel_rfl) (by kernel_rfl) (fun _ _ _ h => h) (by rfl) ?yq36 (by assumption) ?rq36
  case yq36 => (intro w hSw; (try dsimp only at hSw); go_simp; try with_reducible rfl)
  try simp only [Act.put, List.setIfInBounds_toArray, List.set_cons_zero, List.set_cons_succ]
  refine wpAnyH_done (by kernel_rfl) ?_ _
  refine NoPanic.normal ?_
  clear cA_5_0 cA_5_1 cA_5_2 cA_5_3 zA_5 cB_5_0 cB_5_1 cB_5_2 cB_5_3 zB_5
  clear qa8_0 qb8_0 qa8_1 qb8_1 qa8_2 qb8_2 qa8_3 qb8_3
  have KEA_6 : Hid (Els wq8 S rs A) := Lib.hid (KEA_5.out.below HQ8.out)
  have KEB_6 : Hid (Els wq8 S rs2 B) := Lib.hid (KEB_5.out.below HQ8.out)
  have KEC_6 : Hid (Els wq8 S l C) := Lib.hid (KEC_5.out.below HQ8.out)
  have KA_6 : Hid (Blk' wq8 (w.heap.size) 25 #[.int .i64 gt, .int .i64 gn, .int .i64 gs, .slice A rs.length c]) := Lib.hid (KA_5.out.below HQ8.out KA_5.out.lt)
  have KB_6 : Hid (Blk' wq8 (w.heap.size + 1) 25 #[.int .i64 ht, .int .i64 hn, .int .i64 hs, .slice B rs2.length d]) := Lib.hid (KB_5.out.below HQ8.out KB_5.out.lt)
  have KN_6 : Hid (Blk' wq8 (w.heap.size + 1 + 1) 3 #[.int .i64 nn]) := Lib.hid (KN_5.out.below HQ8.out KN_5.out.lt)
  have QB_6 : Hid (Below w.heap.size w wq8) := Lib.hid (bthen QB_5.out HQ8.out QB_5.out.size)
  have sz_6 : w_5.heap.size ≤ wq8.heap.size := (HQ8.out).size
  clear KEA_5 KEB_5 KEC_5 KA_5 KB_5 KN_5 QB_5
  have cA_6_0 : wq8.cell? ⟨w.heap.size, 0, none⟩ = some (.int .i64 gt) := KA_6.out.cell 0
  have cA_6_1 : wq8.cell? ⟨w.heap.size, 1, none⟩ = some (.int .i64 gn) := KA_6.out.cell 1
  have cA_6_2 : wq8.cell? ⟨w.heap.size, 2, none⟩ = some (.int .i64 gs) := KA_6.out.cell 2
  have cA_6_3 : wq8.cell? ⟨w.heap.size, 3, none⟩ = some (.slice A rs.length c) := KA_6.out.cell 3
  have zA_6 : w.heap.size < wq8.heap.size := KA_6.out.lt
  have cN_6_0 : wq8.cell? ⟨w.heap.size + 1 + 1, 0, none⟩ = some (.int .i64 nn) := KN_6.out.cell 0
  have zN_6 : w.heap.size + 1 + 1 < wq8.heap.size := KN_6.out.lt
  go_wp2_with fail
  refine (of_any ⟨gt, gn, gs, rs⟩ nn A c S _ hlc hc KEA_6.out).mono ?_
  rintro e w_7 ⟨vo, he, hown, hbz⟩
  rw [← HOL.out] at hown
  rw [← HWH.out] at he
  subst he
  obtain ⟨Ao, co, hvo, hlo, hco, _⟩ := hown.form
  subst hvo
  clear cA_6_0 cA_6_1 cA_6_2 cA_6_3 zA_6 cN_6_0 zN_6
  have KEA_7 : Hid (Els w_7 S rs A) := Lib.hid (KEA_6.out.below hbz)
  have KEB_7 : Hid (Els w_7 S rs2 B) := Lib.hid (KEB_6.out.below hbz)
  have KEC_7 : Hid (Els w_7 S l C) := Lib.hid (KEC_6.out.below hbz)
  have KA_7 : Hid (Blk' w_7 (w.heap.size) 25 #[.int .i64 gt, .int .i64 gn, .int .i64 gs, .slice A rs.length c]) := Lib.hid (KA_6.out.below hbz KA_6.out.lt)
  have KB_7 : Hid (Blk' w_7 (w.heap.size + 1) 25 #[.int .i64 ht, .int .i64 hn, .int .i64 hs, .slice B rs2.length d]) := Lib.hid (KB_6.out.below hbz KB_6.out.lt)
  have KN_7 : Hid (Blk' w_7 (w.heap.size + 1 + 1) 3 #[.int .i64 nn]) := Lib.hid (KN_6.out.below hbz KN_6.out.lt)
  have QB_7 : Hid (Below w.heap.size w w_7) := Lib.hid (bthen QB_6.out hbz QB_6.out.size)
  have sz_7 : wq8.heap.size ≤ w_7.heap.size := (hbz).size
  clear hbz
  clear KEA_6 KEB_6 KEC_6 KA_6 KB_6 KN_6 QB_6
  have KOo_7 : Hid (Own w_7 (fun _ => False) wq8.heap.size 3 (.slice Ao ol.length co) ol) := Lib.hid (hown)
  clear hown
  have cA_7_0 : w_7.cell? ⟨w.heap.size, 0, none⟩ = some (.int .i64 gt) := KA_7.out.cell 0
  have cA_7_1 : w_7.cell? ⟨w.heap.size, 1, none⟩ = some (.int .i64 gn) := KA_7.out.cell 1
  have cA_7_2 : w_7.cell? ⟨w.heap.size, 2, none⟩ = some (.int .i64 gs) := KA_7.out.cell 2
  have cA_7_3 : w_7.cell? ⟨w.heap.size, 3, none⟩ = some (.slice A rs.length c) := KA_7.out.cell 3
  have zA_7 : w.heap.size < w_7.heap.size := KA_7.out.lt
  have cN_7_0 : w_7.cell? ⟨w.heap.size + 1 + 1, 0, none⟩ = some (.int .i64 nn) := KN_7.out.cell 0
  have zN_7 : w.heap.size + 1 + 1 < w_7.heap.size := KN_7.out.lt
  go_wp2_with fail
  refine (uses_any ⟨gt, gn, gs, rs⟩ nn A c S _ hlc hc KEA_7.out).mono ?_
  rintro e w_8 ⟨vu, he, hown, hbz⟩
  rw [← HUL.out] at hown
  rw [← HWH.out] at he
  subst he
  obtain ⟨Au, cu, hvu, hlu, hcu, _⟩ := hown.form
  subst hvu
  clear cA_7_0 cA_7_1 cA_7_2 cA_7_3 zA_7 cN_7_0 zN_7
  have KEA_8 : Hid (Els w_8 S rs A) := Lib.hid (KEA_7.out.below hbz)
  have KEB_8 : Hid (Els w_8 S rs2 B) := Lib.hid (KEB_7.out.below hbz)
  have KEC_8 : Hid (Els w_8 S l C) := Lib.hid (KEC_7.out.below hbz)
  have KA_8 : Hid (Blk' w_8 (w.heap.size) 25 #[.int .i64 gt, .int .i64 gn, .int .i64 gs, .slice A rs.length c]) := Lib.hid (KA_7.out.below hbz KA_7.out.lt)
  have KB_8 : Hid (Blk' w_8 (w.heap.size + 1) 25 #[.int .i64 ht, .int .i64 hn, .int .i64 hs, .slice B rs2.length d]) := Lib.hid (KB_7.out.below hbz KB_7.out.lt)
  have KN_8 : Hid (Blk' w_8 (w.heap.size + 1 + 1) 3 #[.int .i64 nn]) := Lib.hid (KN_7.out.below hbz KN_7.out.lt)
  have KOo_8 : Hid (Own w_8 (fun _ => False) wq8.heap.size 3 (.slice Ao ol.length co) ol) := Lib.hid (KOo_7.out.below hbz (Nat.le_refl _))
  have QB_8 : Hid (Below w.heap.size w w_8) := Lib.hid (bthen QB_7.out hbz QB_7.out.size)
  have sz_8 : w_7.heap.size ≤ w_8.heap.size := (hbz).size
  clear hbz
  clear KEA_7 KEB_7 KEC_7 KA_7 KB_7 KN_7 KOo_7 QB_7
  have KOu_8 : Hid (Own w_8 (fun _ => False) w_7.heap.size 3 (.slice Au ul.length cu) ul) := Lib.hid (hown)
  clear hown
  by_cases hE0 : E = 0
  · subst hE0
    have hvg := validG_of HE.out.symm
    have hnd := valid_nodup HE.out.symm
    have HVg := Lib.hid hvg
    have HNd := Lib.hid hnd
    have HL32 := Lib.hid hvg.len
    have hrl32 : rs.length ≤ 32 := hvg.len
    have HRr : Hid (∀ q ∈ rs, q.right.length ≤ 4) := Lib.hid (fun q hq => (hvg.rules q hq).2.2.1)
    have HCK := Lib.hid HE.out.symm
    clear hvg hnd
    have cA_8_0 : w_8.cell? ⟨w.heap.size, 0, none⟩ = some (.int .i64 gt) := KA_8.out.cell 0
    have cA_8_1 : w_8.cell? ⟨w.heap.size, 1, none⟩ = some (.int .i64 gn) := KA_8.out.cell 1
    have cA_8_2 : w_8.cell? ⟨w.heap.size, 2, none⟩ = some (.int .i64 gs) := KA_8.out.cell 2
    have cA_8_3 : w_8.cell? ⟨w.heap.size, 3, none⟩ = some (.slice A rs.length c) := KA_8.out.cell 3
    have zA_8 : w.heap.size < w_8.heap.size := KA_8.out.lt
    go_wp2_with fail
    refine (sortedV_any gt gn gs rs A c S _ HCK.out hrl32 HNd.out HRr.out hlc hc KEA_8.out (fun b hb => by have := HS.out b hb; omega)).mono ?_
    rintro e w_9 ⟨ys, A1, A2, c1, c2, rfl, hp, hz, hzp, hcs, hE1, hE2, hbz⟩
    clear cA_8_0 cA_8_1 cA_8_2 cA_8_3 zA_8
    have KEA_9 : Hid (Els w_9 S rs A) := Lib.hid (KEA_8.out.below hbz)
    have KEB_9 : Hid (Els w_9 S rs2 B) := Lib.hid (KEB_8.out.below hbz)
    have KEC_9 : Hid (Els w_9 S l C) := Lib.hid (KEC_8.out.below hbz)
    have KA_9 : Hid (Blk' w_9 (w.heap.size) 25 #[.int .i64 gt, .int .i64 gn, .int .i64 gs, .slice A rs.length c]) := Lib.hid (KA_8.out.below hbz KA_8.out.lt)
    have KB_9 : Hid (Blk' w_9 (w.heap.size + 1) 25 #[.int .i64 ht, .int .i64 hn, .int .i64 hs, .slice B rs2.length d]) := Lib.hid (KB_8.out.below hbz KB_8.out.lt)
    have KN_9 : Hid (Blk' w_9 (w.heap.size + 1 + 1) 3 #[.int .i64 nn]) := Lib.hid (KN_8.out.below hbz KN_8.out.lt)
    have KOo_9 : Hid (Own w_9 (fun _ => False) wq8.heap.size 3 (.slice Ao ol.length co) ol) := Lib.hid (KOo_8.out.below hbz (Nat.le_refl _))
    have KOu_9 : Hid (Own w_9 (fun _ => False) w_7.heap.size 3 (.slice Au ul.length cu) ul) := Lib.hid (KOu_8.out.below hbz (Nat.le_refl _))
    have QB_9 : Hid (Below w.heap.size w w_9) := Lib.hid (bthen QB_8.out hbz QB_8.out.size)
    have sz_9 : w_8.heap.size ≤ w_9.heap.size := (hbz).size
    clear hbz
    clear KEA_8 KEB_8 KEC_8 KA_8 KB_8 KN_8 KOo_8 KOu_8 QB_8
    have HP := Lib.hid (And.intro hp (And.intro hz hzp))
    obtain ⟨hc11, hc12, hc21, hc22⟩ := hcs
    have hyl : ys.length = rs.length := by rw [hp.length_eq, idxL_len]
    have HYl := Lib.hid hyl
    have HYi : Hid (∀ v ∈ ys, I64 v) := Lib.hid (fun v hv => by
      obtain ⟨k, hk, rfl⟩ := List.mem_map.1 (hp.subset hv)
      have h2 := List.mem_range.1 hk
      exact ⟨by omega, by omega⟩)
    have KE1_9 : Hid (Els w_9 (fun b => b < w_9.heap.size) (ys.map (ruleAt rs)) A1) := Lib.hid (hE1.keep (fun _ _ _ => rfl) (fun _ h => h.2))
    have KE2_9 : Hid (Els w_9 (fun b => b < w_9.heap.size) ys A2) := Lib.hid (hE2.keep (fun _ _ _ => rfl) (fun _ h => h.2))
    clear hp hz hzp hE1 hE2 hyl
    obtain ⟨w_10, hww_10⟩ : ∃ w_10 : World, w_10 = w_9.alloc (.cells #[.int .i64 gt, .int .i64 gn, .int .i64 gs, .slice A1 rs.length c1] 25) := ⟨_, rfl⟩
    have hbw_10 : Below w_9.heap.size w_9 w_10 := by rw [hww_10]; exact (Below.refl _ _).alloc (by first | exact Nat.le_refl _ | (simp; done) | (simp; omega)) _
    have sqw_10 : w_10.heap.size = w_9.heap.size + 1 := by rw [hww_10]; simp
    have KEA_10 : Hid (Els w_10 S rs A) := Lib.hid (KEA_9.out.below hbw_10)
    have KEB_10 : Hid (Els w_10 S rs2 B) := Lib.hid (KEB_9.out.below hbw_10)
    have KEC_10 : Hid (Els w_10 S l C) := Lib.hid (KEC_9.out.below hbw_10)
    have KA_10 : Hid (Blk' w_10 (w.heap.size) 25 #[.int .i64 gt, .int .i64 gn, .int .i64 gs, .slice A rs.length c]) := Lib.hid (KA_9.out.below hbw_10 KA_9.out.lt)
    have KB_10 : Hid (Blk' w_10 (w.heap.size + 1) 25 #[.int .i64 ht, .int .i64 hn, .int .i64 hs, .slice B rs2.length d]) := Lib.hid (KB_9.out.below hbw_10 KB_9.out.lt)
    have KN_10 : Hid (Blk' w_10 (w.heap.size + 1 + 1) 3 #[.int .i64 nn]) := Lib.hid (KN_9.out.below hbw_10 KN_9.out.lt)
    have KOo_10 : Hid (Own w_10 (fun _ => False) wq8.heap.size 3 (.slice Ao ol.length co) ol) := Lib.hid (KOo_9.out.below hbw_10 (Nat.le_refl _))
    have KOu_10 : Hid (Own w_10 (fun _ => False) w_7.heap.size 3 (.slice Au ul.length cu) ul) := Lib.hid (KOu_9.out.below hbw_10 (Nat.le_refl _))
    have KE1_10 : Hid (Els w_10 (fun b => b < w_9.heap.size) (ys.map (ruleAt rs)) A1) := Lib.hid (KE1_9.out.below hbw_10)
    have KE2_10 : Hid (Els w_10 (fun b => b < w_9.heap.size) ys A2) := Lib.hid (KE2_9.out.below hbw_10)
    have QB_10 : Hid (Below w.heap.size w w_10) := Lib.hid (bthen QB_9.out hbw_10 QB_9.out.size)
    have sz_10 : w_9.heap.size + 1 ≤ w_10.heap.size := by rw [sqw_10]; exact Nat.le_refl _
    have KSO_10 : Hid (Blk' w_10 (w_9.heap.size) 25 #[.int .i64 gt, .int .i64 gn, .int .i64 gs, .slice A1 rs.length c1]) := Lib.hid (by rw [hww_10]; exact Blk'.new w_9 _ _)
    have HWw_10 := Lib.hid hww_10
    have SQw_10 := Lib.hid sqw_10
    clear hww_10 hbw_10 sqw_10
    clear KEA_9 KEB_9 KEC_9 KA_9 KB_9 KN_9 KOo_9 KOu_9 KE1_9 KE2_9 QB_9
    go_upto_region 12 with (fail)
    rw [← HWw_10.out]
    have cA_10_0 : w_10.cell? ⟨w.heap.size, 0, none⟩ = some (.int .i64 gt) := KA_10.out.cell 0
    have cA_10_1 : w_10.cell? ⟨w.heap.size, 1, none⟩ = some (.int .i64 gn) := KA_10.out.cell 1
    have cA_10_2 : w_10.cell? ⟨w.heap.size, 2, none⟩ = some (.int .i64 gs) := KA_10.out.cell 2
    have cA_10_3 : w_10.cell? ⟨w.heap.size, 3, none⟩ = some (.slice A rs.length c) := KA_10.out.cell 3
    have zA_10 : w.heap.size < w_10.heap.size := KA_10.out.lt
    go_wp2_with fail
    refine (sortedOf_any gt gn gs rs ys A c S _ hrl32 (valid_small HVg.out) (fun q hq => by have := HRr.out q hq; omega) HP.out.1 HP.out.2.1 HP.out.2.2 hlc hc KEA_10.out (fun b hb => by have := HS.out b hb; omega)).mono ?_
    rintro e w_11 ⟨rfl, hbo, hbz⟩
    clear cA_10_0 cA_10_1 cA_10_2 cA_10_3 zA_10
    have KEA_11 : Hid (Els w_11 S rs A) := Lib.hid (KEA_10.out.below hbz)
    have KEB_11 : Hid (Els w_11 S rs2 B) := Lib.hid (KEB_10.out.below hbz)
    have KEC_11 : Hid (Els w_11 S l C) := Lib.hid (KEC_10.out.below hbz)
    have KA_11 : Hid (Blk' w_11 (w.heap.size) 25 #[.int .i64 gt, .int .i64 gn, .int .i64 gs, .slice A rs.length c]) := Lib.hid (KA_10.out.below hbz KA_10.out.lt)
    have KB_11 : Hid (Blk' w_11 (w.heap.size + 1) 25 #[.int .i64 ht, .int .i64 hn, .int .i64 hs, .slice B rs2.length d]) := Lib.hid (KB_10.out.below hbz KB_10.out.lt)
    have KN_11 : Hid (Blk' w_11 (w.heap.size + 1 + 1) 3 #[.int .i64 nn]) := Lib.hid (KN_10.out.below hbz KN_10.out.lt)
    have KOo_11 : Hid (Own w_11 (fun _ => False) wq8.heap.size 3 (.slice Ao ol.length co) ol) := Lib.hid (KOo_10.out.below hbz (Nat.le_refl _))
    have KOu_11 : Hid (Own w_11 (fun _ => False) w_7.heap.size 3 (.slice Au ul.length cu) ul) := Lib.hid (KOu_10.out.below hbz (Nat.le_refl _))
    have KE1_11 : Hid (Els w_11 (fun b => b < w_9.heap.size) (ys.map (ruleAt rs)) A1) := Lib.hid (KE1_10.out.below hbz)
    have KE2_11 : Hid (Els w_11 (fun b => b < w_9.heap.size) ys A2) := Lib.hid (KE2_10.out.below hbz)
    have KSO_11 : Hid (Blk' w_11 (w_9.heap.size) 25 #[.int .i64 gt, .int .i64 gn, .int .i64 gs, .slice A1 rs.length c1]) := Lib.hid (KSO_10.out.below hbz KSO_10.out.lt)
    have QB_11 : Hid (Below w.heap.size w w_11) := Lib.hid (bthen QB_10.out hbz QB_10.out.size)
    have sz_11 : w_10.heap.size ≤ w_11.heap.size := (hbz).size
    clear hbz
    clear KEA_10 KEB_10 KEC_10 KA_10 KB_10 KN_10 KOo_10 KOu_10 KE1_10 KE2_10 KSO_10 QB_10
    have KOB_11 : Hid (Blk' w_11 (w_10.heap.size + 1) 3 (icells ys)) := Lib.hid (hbo)
    clear hbo
    have cA_11_0 : w_11.cell? ⟨w.heap.size, 0, none⟩ = some (.int .i64 gt) := KA_11.out.cell 0
    have cA_11_1 : w_11.cell? ⟨w.heap.size, 1, none⟩ = some (.int .i64 gn) := KA_11.out.cell 1
    have cA_11_2 : w_11.cell? ⟨w.heap.size, 2, none⟩ = some (.int .i64 gs) := KA_11.out.cell 2
    have cA_11_3 : w_11.cell? ⟨w.heap.size, 3, none⟩ = some (.slice A rs.length c) := KA_11.out.cell 3
    have zA_11 : w.heap.size < w_11.heap.size := KA_11.out.lt
    have cSO_11_0 : w_11.cell? ⟨w_9.heap.size, 0, none⟩ = some (.int .i64 gt) := KSO_11.out.cell 0
    have cSO_11_1 : w_11.cell? ⟨w_9.heap.size, 1, none⟩ = some (.int .i64 gn) := KSO_11.out.cell 1
    have cSO_11_2 : w_11.cell? ⟨w_9.heap.size, 2, none⟩ = some (.int .i64 gs) := KSO_11.out.cell 2
    have cSO_11_3 : w_11.cell? ⟨w_9.heap.size, 3, none⟩ = some (.slice A1 rs.length c1) := KSO_11.out.cell 3
    have zSO_11 : w_9.heap.size < w_11.heap.size := KSO_11.out.lt
    go_wp2_with fail
    refine (eq_trueC A2 (some ⟨w_10.heap.size + 1, 0, none⟩) ys ys rs.length rs.length c2 rs.length _ (fun _ => True) _ rfl HYl.out.symm HYl.out.symm (by rw [HYl.out]; omega) KE2_11.out (els_icells KOB_11.out HYi.out trivial)).mono ?_
    rintro e w_12 ⟨rfl, hbz⟩
    clear cA_11_0 cA_11_1 cA_11_2 cA_11_3 zA_11 cSO_11_0 cSO_11_1 cSO_11_2 cSO_11_3 zSO_11
    have KEA_12 : Hid (Els w_12 S rs A) := Lib.hid (KEA_11.out.below hbz)
    have KEB_12 : Hid (Els w_12 S rs2 B) := Lib.hid (KEB_11.out.below hbz)
    have KEC_12 : Hid (Els w_12 S l C) := Lib.hid (KEC_11.out.below hbz)
    have KA_12 : Hid (Blk' w_12 (w.heap.size) 25 #[.int .i64 gt, .int .i64 gn, .int .i64 gs, .slice A rs.length c]) := Lib.hid (KA_11.out.below hbz KA_11.out.lt)
    have KB_12 : Hid (Blk' w_12 (w.heap.size + 1) 25 #[.int .i64 ht, .int .i64 hn, .int .i64 hs, .slice B rs2.length d]) := Lib.hid (KB_11.out.below hbz KB_11.out.lt)
    have KN_12 : Hid (Blk' w_12 (w.heap.size + 1 + 1) 3 #[.int .i64 nn]) := Lib.hid (KN_11.out.below hbz KN_11.out.lt)
    have KOo_12 : Hid (Own w_12 (fun _ => False) wq8.heap.size 3 (.slice Ao ol.length co) ol) := Lib.hid (KOo_11.out.below hbz (Nat.le_refl _))
    have KOu_12 : Hid (Own w_12 (fun _ => False) w_7.heap.size 3 (.slice Au ul.length cu) ul) := Lib.hid (KOu_11.out.below hbz (Nat.le_refl _))
    have KE1_12 : Hid (Els w_12 (fun b => b < w_9.heap.size) (ys.map (ruleAt rs)) A1) := Lib.hid (KE1_11.out.below hbz)
    have KE2_12 : Hid (Els w_12 (fun b => b < w_9.heap.size) ys A2) := Lib.hid (KE2_11.out.below hbz)
    have KSO_12 : Hid (Blk' w_12 (w_9.heap.size) 25 #[.int .i64 gt, .int .i64 gn, .int .i64 gs, .slice A1 rs.length c1]) := Lib.hid (KSO_11.out.below hbz KSO_11.out.lt)
    have KOB_12 : Hid (Blk' w_12 (w_10.heap.size + 1) 3 (icells ys)) := Lib.hid (KOB_11.out.below hbz KOB_11.out.lt)
    have QB_12 : Hid (Below w.heap.size w w_12) := Lib.hid (bthen QB_11.out hbz QB_11.out.size)
    have sz_12 : w_11.heap.size ≤ w_12.heap.size := (hbz).size
    clear hbz
    clear KEA_11 KEB_11 KEC_11 KA_11 KB_11 KN_11 KOo_11 KOu_11 KE1_11 KE2_11 KSO_11 KOB_11 QB_11
    have cA_12_0 : w_12.cell? ⟨w.heap.size, 0, none⟩ = some (.int .i64 gt) := KA_12.out.cell 0
    have cA_12_1 : w_12.cell? ⟨w.heap.size, 1, none⟩ = some (.int .i64 gn) := KA_12.out.cell 1
    have cA_12_2 : w_12.cell? ⟨w.heap.size, 2, none⟩ = some (.int .i64 gs) := KA_12.out.cell 2
    have cA_12_3 : w_12.cell? ⟨w.heap.size, 3, none⟩ = some (.slice A rs.length c) := KA_12.out.cell 3
    have zA_12 : w.heap.size < w_12.heap.size := KA_12.out.lt
    have cSO_12_0 : w_12.cell? ⟨w_9.heap.size, 0, none⟩ = some (.int .i64 gt) := KSO_12.out.cell 0
    have cSO_12_1 : w_12.cell? ⟨w_9.heap.size, 1, none⟩ = some (.int .i64 gn) := KSO_12.out.cell 1
    have cSO_12_2 : w_12.cell? ⟨w_9.heap.size, 2, none⟩ = some (.int .i64 gs) := KSO_12.out.cell 2
    have cSO_12_3 : w_12.cell? ⟨w_9.heap.size, 3, none⟩ = some (.slice A1 rs.length c1) := KSO_12.out.cell 3
    have zSO_12 : w_9.heap.size < w_12.heap.size := KSO_12.out.lt
    go_wp2_with fail
    clear cA_12_0 cA_12_1 cA_12_2 cA_12_3 zA_12 cSO_12_0 cSO_12_1 cSO_12_2 cSO_12_3 zSO_12
    go_loopw [170] (fun i wr => Lp1 rs w_12 i wr) (fun i _ => rs.length - (intOf i).toNat)
    case atStart => exact ⟨0, Nat.zero_le _, rfl, Below.refl _ _⟩
    case round =>
      obtain ⟨wo, hwo⟩ : ∃ wo : World, wo = wr := ⟨_, rfl⟩
      subst hwo
      obtain ⟨m, hm, rfl, hb⟩ := hrel
      have HBo := Lib.hid hb
      have zzo : w_12.heap.size ≤ wo.heap.size := hb.size
      have KEA_13 : Hid (Els wo S rs A) := Lib.hid (KEA_12.out.below hb)
      have KEB_13 : Hid (Els wo S rs2 B) := Lib.hid (KEB_12.out.below hb)
      have KEC_13 : Hid (Els wo S l C) := Lib.hid (KEC_12.out.below hb)
      have KA_13 : Hid (Blk' wo (w.heap.size) 25 #[.int .i64 gt, .int .i64 gn, .int .i64 gs, .slice A rs.length c]) := Lib.hid (KA_12.out.below hb KA_12.out.lt)
      have KB_13 : Hid (Blk' wo (w.heap.size + 1) 25 #[.int .i64 ht, .int .i64 hn, .int .i64 hs, .slice B rs2.length d]) := Lib.hid (KB_12.out.below hb KB_12.out.lt)
      have KN_13 : Hid (Blk' wo (w.heap.size + 1 + 1) 3 #[.int .i64 nn]) := Lib.hid (KN_12.out.below hb KN_12.out.lt)
      have KOo_13 : Hid (Own wo (fun _ => False) wq8.heap.size 3 (.slice Ao ol.length co) ol) := Lib.hid (KOo_12.out.below hb (Nat.le_refl _))
      have KOu_13 : Hid (Own wo (fun _ => False) w_7.heap.size 3 (.slice Au ul.length cu) ul) := Lib.hid (KOu_12.out.below hb (Nat.le_refl _))
      have KE1_13 : Hid (Els wo (fun b => b < w_9.heap.size) (ys.map (ruleAt rs)) A1) := Lib.hid (KE1_12.out.below hb)
      have KE2_13 : Hid (Els wo (fun b => b < w_9.heap.size) ys A2) := Lib.hid (KE2_12.out.below hb)
      have KSO_13 : Hid (Blk' wo (w_9.heap.size) 25 #[.int .i64 gt, .int .i64 gn, .int .i64 gs, .slice A1 rs.length c1]) := Lib.hid (KSO_12.out.below hb KSO_12.out.lt)
      have KOB_13 : Hid (Blk' wo (w_10.heap.size + 1) 3 (icells ys)) := Lib.hid (KOB_12.out.below hb KOB_12.out.lt)
      have QB_13 : Hid (Below w.heap.size w wo) := Lib.hid (bthen QB_12.out hb QB_12.out.size)
      have sz_13 : w_12.heap.size ≤ wo.heap.size := (hb).size
      clear hb
      clear KEA_12 KEB_12 KEC_12 KA_12 KB_12 KN_12 KOo_12 KOu_12 KE1_12 KE2_12 KSO_12 KOB_12 QB_12
      by_cases hlt : m < rs.length
      · obtain ⟨y, hy⟩ := get_some (xs := ys) (k := m) (by rw [HYl.out]; exact hlt)
        obtain ⟨kn, hkn, hkl⟩ : ∃ k : Nat, y = (k : Int) ∧ k < rs.length := by
          have h2 := HP.out.1.subset (List.mem_of_getElem? hy)
          obtain ⟨k, hk, rfl⟩ := List.mem_map.1 h2
          exact ⟨k, rfl, List.mem_range.1 hk⟩
        subst hkn
        obtain ⟨q, hq⟩ := get_some hkl
        have hq1 : (ys.map (ruleAt rs))[m]? = some q := by rw [List.getElem?_map, hy]; simp only [Option.map_some]; rw [ruleAt_get hq]
        have yc : wo.cell? ⟨w_10.heap.size + 1, m, none⟩ = some (.int .i64 kn) := by rw [KOB_13.out.cell]; exact icells_get hy
        have zOB : w_10.heap.size + 1 < wo.heap.size := KOB_13.out.lt
        obtain ⟨bq, oq, Aq, cq, eA, hSb, hbs, hqi, hrc, hcr, hEr, hc0, hc1⟩ := KEA_13.out.rule hq
        subst eA
        obtain ⟨bs, os, As, cs, eA, hSs, hbs2, hqi2, hrc2, hcr2, hEs, hd0, hd1⟩ := KE1_13.out.rule hq1
        subst eA
        have HQ := Lib.hid (And.intro hrc (And.intro hcr (And.intro hrc2 hcr2)))
        have HEr := Lib.hid hEr
        have HEs2 := Lib.hid hEs
        obtain ⟨ql, qr⟩ := q
        dsimp only at hc0 hc1 hd0 hd1
        have hm0 : (0 : Int) ≤ (m : Int) := by omega
        have hm1 : (m : Int) < (rs.length : Int) := by omega
        have hk0 : (0 : Int) ≤ (kn : Int) := by omega
        have hk1 : (kn : Int) < (rs.length : Int) := by omega
        clear hy hq hq1 hSb hqi hrc hcr hEr hSs hqi2 hrc2 hcr2 hEs
        have cA_13_0 : wo.cell? ⟨w.heap.size, 0, none⟩ = some (.int .i64 gt) := KA_13.out.cell 0
        have cA_13_1 : wo.cell? ⟨w.heap.size, 1, none⟩ = some (.int .i64 gn) := KA_13.out.cell 1
        have cA_13_2 : wo.cell? ⟨w.heap.size, 2, none⟩ = some (.int .i64 gs) := KA_13.out.cell 2
        have cA_13_3 : wo.cell? ⟨w.heap.size, 3, none⟩ = some (.slice (some ⟨bq, oq, none⟩) rs.length c) := KA_13.out.cell 3
        have zA_13 : w.heap.size < wo.heap.size := KA_13.out.lt
        have cSO_13_0 : wo.cell? ⟨w_9.heap.size, 0, none⟩ = some (.int .i64 gt) := KSO_13.out.cell 0
        have cSO_13_1 : wo.cell? ⟨w_9.heap.size, 1, none⟩ = some (.int .i64 gn) := KSO_13.out.cell 1
        have cSO_13_2 : wo.cell? ⟨w_9.heap.size, 2, none⟩ = some (.int .i64 gs) := KSO_13.out.cell 2
        have cSO_13_3 : wo.cell? ⟨w_9.heap.size, 3, none⟩ = some (.slice (some ⟨bs, os, none⟩) rs.length c1) := KSO_13.out.cell 3
        have zSO_13 : w_9.heap.size < wo.heap.size := KSO_13.out.lt
        go_upto_region 18 with (fail)
        go_still_tail 10, (by kernel_rfl)
        change wpList _ _ _ _ _ wo.drew
        go_wp2_with fail
        refine (sameRule_any ql ql qr qr As Aq cs cq _ _ _ ⟨HQ.out.2.2.1, HQ.out.2.2.2⟩ ⟨HQ.out.1, HQ.out.2.1⟩ (HEs2.out.below (Below.refl _ _).drew) (HEr.out.below (Below.refl _ _).drew)).mono ?_
        rintro e w9 ⟨rfl, hb9⟩
        rw [show decide ((⟨ql, qr⟩ : Rule) = ⟨ql, qr⟩) = true by simp]
        have HB9 := Lib.hid (bthen HBo.out (bundrew hb9) HBo.out.size)
        clear hb9 hc0 hc1 hd0 hd1 yc
        clear cA_13_0 cA_13_1 cA_13_2 cA_13_3 zA_13 cSO_13_0 cSO_13_1 cSO_13_2 cSO_13_3 zSO_13
        go_wp2_with fail
        go_roundw
        case rel => exact ⟨m + 1, hlt, by go_num, HB9.out⟩
        case measure => simp [intOf]; omega
      · have hm1 : ¬ (m : Int) < (rs.length : Int) := by omega
        by_cases hx : nn < 0
        · skip
          have hwh : WH = 1 := by rw [HWH.out]; unfold whereE; rw [if_neg (by rw [← HE.out]; simp), if_pos (.inl hx)]
          have hne : ¬ whereE ⟨gt, gn, gs, rs⟩ nn = 0 := by rw [← HWH.out, hwh]; decide
          have ho0 : ol = [] := by rw [HOL.out]; unfold ofL whereL; rw [if_neg hne]
          have hu0 : ul = [] := by rw [HUL.out]; unfold usesL whereL; rw [if_neg hne]
          subst ho0; subst hu0; subst hwh
          clear hne
          have cA_13_0 : wo.cell? ⟨w.heap.size, 0, none⟩ = some (.int .i64 gt) := KA_13.out.cell 0
          have cA_13_1 : wo.cell? ⟨w.heap.size, 1, none⟩ = some (.int .i64 gn) := KA_13.out.cell 1
          have cA_13_2 : wo.cell? ⟨w.heap.size, 2, none⟩ = some (.int .i64 gs) := KA_13.out.cell 2
          have cA_13_3 : wo.cell? ⟨w.heap.size, 3, none⟩ = some (.slice A rs.length c) := KA_13.out.cell 3
          have zA_13 : w.heap.size < wo.heap.size := KA_13.out.lt
          have cN_13_0 : wo.cell? ⟨w.heap.size + 1 + 1, 0, none⟩ = some (.int .i64 nn) := KN_13.out.cell 0
          have zN_13 : w.heap.size + 1 + 1 < wo.heap.size := KN_13.out.lt
          dsimp only [List.length_nil] at *
          go_wp2_with fail
          go_ret
          exact ⟨rfl, QB_13.out⟩
        · by_cases hx2 : gn ≤ nn
          · skip
            have hwh : WH = 1 := by rw [HWH.out]; unfold whereE; rw [if_neg (by rw [← HE.out]; simp), if_pos (.inr hx2)]
            have hne : ¬ whereE ⟨gt, gn, gs, rs⟩ nn = 0 := by rw [← HWH.out, hwh]; decide
            have ho0 : ol = [] := by rw [HOL.out]; unfold ofL whereL; rw [if_neg hne]
            have hu0 : ul = [] := by rw [HUL.out]; unfold usesL whereL; rw [if_neg hne]
            subst ho0; subst hu0; subst hwh
            clear hne
            have cA_13_0 : wo.cell? ⟨w.heap.size, 0, none⟩ = some (.int .i64 gt) := KA_13.out.cell 0
            have cA_13_1 : wo.cell? ⟨w.heap.size, 1, none⟩ = some (.int .i64 gn) := KA_13.out.cell 1
            have cA_13_2 : wo.cell? ⟨w.heap.size, 2, none⟩ = some (.int .i64 gs) := KA_13.out.cell 2
            have cA_13_3 : wo.cell? ⟨w.heap.size, 3, none⟩ = some (.slice A rs.length c) := KA_13.out.cell 3
            have zA_13 : w.heap.size < wo.heap.size := KA_13.out.lt
            have cN_13_0 : wo.cell? ⟨w.heap.size + 1 + 1, 0, none⟩ = some (.int .i64 nn) := KN_13.out.cell 0
            have zN_13 : w.heap.size + 1 + 1 < wo.heap.size := KN_13.out.lt
            dsimp only [List.length_nil] at *
            go_wp2_with fail
            go_ret
            exact ⟨rfl, QB_13.out⟩
          · have hwh : WH = 0 := by rw [HWH.out]; unfold whereE; rw [if_neg (by rw [← HE.out]; simp), if_neg (fun h => h.elim hx hx2)]
            have hne : whereE ⟨gt, gn, gs, rs⟩ nn = 0 := by rw [← HWH.out, hwh]
            have HOl2 : Hid (ol = whereFrom (fun r => r.left == nn) 0 rs) := Lib.hid (by rw [HOL.out]; unfold ofL whereL; rw [if_pos hne])
            have HUl2 : Hid (ul = whereFrom (usesP nn) 0 rs) := Lib.hid (by rw [HUL.out]; unfold usesL whereL; rw [if_pos hne])
            subst hwh
            clear hne hm1
            have cA_13_0 : wo.cell? ⟨w.heap.size, 0, none⟩ = some (.int .i64 gt) := KA_13.out.cell 0
            have cA_13_1 : wo.cell? ⟨w.heap.size, 1, none⟩ = some (.int .i64 gn) := KA_13.out.cell 1
            have cA_13_2 : wo.cell? ⟨w.heap.size, 2, none⟩ = some (.int .i64 gs) := KA_13.out.cell 2
            have cA_13_3 : wo.cell? ⟨w.heap.size, 3, none⟩ = some (.slice A rs.length c) := KA_13.out.cell 3
            have zA_13 : w.heap.size < wo.heap.size := KA_13.out.lt
            have cN_13_0 : wo.cell? ⟨w.heap.size + 1 + 1, 0, none⟩ = some (.int .i64 nn) := KN_13.out.cell 0
            have zN_13 : w.heap.size + 1 + 1 < wo.heap.size := KN_13.out.lt
            go_wp2_with fail
            clear cA_13_0 cA_13_1 cA_13_2 cA_13_3 zA_13 cN_13_0 zN_13
            go_loopw [214, 24, 25] (fun i va vb wr => Lp2 rs nn wo i va vb wr) (fun i _ _ _ => rs.length - (intOf i).toNat)
            case atStart => exact ⟨0, [], [], _, _, rfl, rfl, Nat.zero_le _, rfl, Nat.le_refl _, Nat.le_refl _, by simp, by simp, Two.nil _ _ _ _ _, Below.refl _ _⟩
            case round =>
              obtain ⟨wp, hwp⟩ : ∃ wp : World, wp = wr := ⟨_, rfl⟩
              subst hwp
              obtain ⟨k, oa, ob, va, vb, eva, evb, hk, rfl, hla, hlb, hwa, hwb, hTw, hb⟩ := hrel
              subst eva; subst evb
              have HT := Lib.hid hTw
              have HBp := Lib.hid hb
              have HWa := Lib.hid hwa
              have HWb := Lib.hid hwb
              have HLa := Lib.hid (And.intro hla hlb)
              have zzp : wo.heap.size ≤ wp.heap.size := hb.size
              clear hwa hwb hTw hla hlb
              have KEA_14 : Hid (Els wp S rs A) := Lib.hid (KEA_13.out.below hb)
              have KEB_14 : Hid (Els wp S rs2 B) := Lib.hid (KEB_13.out.below hb)
              have KEC_14 : Hid (Els wp S l C) := Lib.hid (KEC_13.out.below hb)
              have KA_14 : Hid (Blk' wp (w.heap.size) 25 #[.int .i64 gt, .int .i64 gn, .int .i64 gs, .slice A rs.length c]) := Lib.hid (KA_13.out.below hb KA_13.out.lt)
              have KB_14 : Hid (Blk' wp (w.heap.size + 1) 25 #[.int .i64 ht, .int .i64 hn, .int .i64 hs, .slice B rs2.length d]) := Lib.hid (KB_13.out.below hb KB_13.out.lt)
              have KN_14 : Hid (Blk' wp (w.heap.size + 1 + 1) 3 #[.int .i64 nn]) := Lib.hid (KN_13.out.below hb KN_13.out.lt)
              have KOo_14 : Hid (Own wp (fun _ => False) wq8.heap.size 3 (.slice Ao ol.length co) ol) := Lib.hid (KOo_13.out.below hb (Nat.le_refl _))
              have KOu_14 : Hid (Own wp (fun _ => False) w_7.heap.size 3 (.slice Au ul.length cu) ul) := Lib.hid (KOu_13.out.below hb (Nat.le_refl _))
              have KE1_14 : Hid (Els wp (fun b => b < w_9.heap.size) (ys.map (ruleAt rs)) A1) := Lib.hid (KE1_13.out.below hb)
              have KE2_14 : Hid (Els wp (fun b => b < w_9.heap.size) ys A2) := Lib.hid (KE2_13.out.below hb)
              have KSO_14 : Hid (Blk' wp (w_9.heap.size) 25 #[.int .i64 gt, .int .i64 gn, .int .i64 gs, .slice A1 rs.length c1]) := Lib.hid (KSO_13.out.below hb KSO_13.out.lt)
              have KOB_14 : Hid (Blk' wp (w_10.heap.size + 1) 3 (icells ys)) := Lib.hid (KOB_13.out.below hb KOB_13.out.lt)
              have QB_14 : Hid (Below w.heap.size w wp) := Lib.hid (bthen QB_13.out hb QB_13.out.size)
              have sz_14 : wo.heap.size ≤ wp.heap.size := (hb).size
              clear hb
              clear KEA_13 KEB_13 KEC_13 KA_13 KB_13 KN_13 KOo_13 KOu_13 KE1_13 KE2_13 KSO_13 KOB_13 QB_13
              by_cases hlt : k < rs.length
              · obtain ⟨q, hq⟩ := get_some (xs := rs) (k := k) hlt
                obtain ⟨bq, oq, Aq, cq, eA, hSb, hbs, hqi, hrc, hcr, hEr, hc0, hc1⟩ := KEA_14.out.rule hq
                subst eA
                have HDr := Lib.hid (drop_cons hq)
                have HQr := Lib.hid (HRr.out q (List.mem_of_getElem? hq))
                obtain ⟨ql, qr⟩ := q
                dsimp only at hqi hrc hcr hEr hc0 hc1
                have hk0 : (0 : Int) ≤ (k : Int) := by omega
                have hk1 : (k : Int) < (rs.length : Int) := by omega
                have HIk : Hid (I64 (k : Int)) := Lib.hid ⟨by omega, by omega⟩
                have HCa : Hid ((oa.length + 1) * 8 ≤ 140737488355328 ∧ oa.length + 1 ≤ 9223372036854775807 ∧ (ob.length + 1) * 8 ≤ 140737488355328 ∧ ob.length + 1 ≤ 9223372036854775807) := Lib.hid (by have h1 := HLa.out; omega)
                obtain ⟨w5, hw5⟩ : ∃ w5 : World, w5 = wp.alloc (.cells #[.int .i64 ql, .slice Aq qr.length cq] 61) := ⟨_, rfl⟩
                have HW5 := Lib.hid hw5
                have hb5 : Below wp.heap.size wp w5 := by rw [hw5]; exact (Below.refl _ _).alloc (Nat.le_refl _) _
                have hX5 : Blk' w5 wp.heap.size 61 #[.int .i64 ql, .slice Aq qr.length cq] := by rw [hw5]; exact Blk'.new wp _ _
                have HX5 := Lib.hid hX5
                have HE5 := Lib.hid (hEr.below hb5)
                have HN5 := Lib.hid (KN_14.out.below hb5 KN_14.out.lt)
                have HT5 := Lib.hid (HT.out.below hb5 (Nat.le_refl _))
                have HB5 := Lib.hid (bthen HBp.out hb5 HBp.out.size)
                have hs5 : wp.heap.size < w5.heap.size := hX5.lt
                have HRc := Lib.hid (And.intro hrc hcr)
                have HVa : Hid (∀ j, va.ownBlock = some j → j < wp.heap.size) := Lib.hid (fun j hj => (HT.out.1.block j hj).2)
                have x0 : w5.cell? ⟨wp.heap.size, 0, none⟩ = some (.int .i64 ql) := hX5.cell 0
                have x1 : w5.cell? ⟨wp.heap.size, 1, none⟩ = some (.slice Aq qr.length cq) := hX5.cell 1
                have n0 : w5.cell? ⟨w.heap.size + 1 + 1, 0, none⟩ = some (.int .i64 nn) := HN5.out.cell 0
                have zN5 := HN5.out.lt
                clear hw5 hb5 hX5 hEr hq hSb hqi hrc hcr
                have cA_14_0 : wp.cell? ⟨w.heap.size, 0, none⟩ = some (.int .i64 gt) := KA_14.out.cell 0
                have cA_14_1 : wp.cell? ⟨w.heap.size, 1, none⟩ = some (.int .i64 gn) := KA_14.out.cell 1
                have cA_14_2 : wp.cell? ⟨w.heap.size, 2, none⟩ = some (.int .i64 gs) := KA_14.out.cell 2
                have cA_14_3 : wp.cell? ⟨w.heap.size, 3, none⟩ = some (.slice (some ⟨bq, oq, none⟩) rs.length c) := KA_14.out.cell 3
                have zA_14 : w.heap.size < wp.heap.size := KA_14.out.lt
                go_upto_region 27 with (fail)
                rw [← HW5.out]
                clear hc0 hc1
                clear cA_14_0 cA_14_1 cA_14_2 cA_14_3 zA_14
                by_cases hql : ql = nn
                · have hqe : (ql == nn) = true := by simp [hql]
                  have HQe := Lib.hid hqe
                  clear hql
                  go_wp2_with ((at_builtin); (refine wpList_two1 _ rfl _ _ elemInt rfl rfl (HT5.out.alloc _) (k : Int) [.int .i64 (k : Int)] rfl (At.new _ _ _) ⟨rfl, HIk.out⟩ HCa.out.1 HCa.out.2.1 (by have h1 := HB5.out.size; simp; omega) ?_); (intro v6 w6 hT6 hg6 _); (have H6 := Lib.hid (And.intro hT6 hg6)); (have m1 := grown_cell6 hg6 (cell_alloc x1 (.cells #[.int .i64 (k : Int)] 3)) (fun e => by have h1 := HVa.out _ e; omega)); (have mn := grown_cell6 hg6 (cell_alloc n0 (.cells #[.int .i64 (k : Int)] 3)) (fun e => by have h1 := (HT.out.1.block _ e).1; omega)); (have zX6 := World.block_lt_of_cell? _ _ m1); (have zN6 := World.block_lt_of_cell? _ _ mn); (clear hT6 hg6 x0 x1 n0))
                  have HT6 := Lib.hid H6.out.1
                  have HN6 := Lib.hid ((HN5.out.alloc (.cells #[.int .i64 (k : Int)] 3)).grown H6.out.2 (fun e => by have h1 := (HT.out.1.block _ e.symm).1; omega))
                  have HE6 := Lib.hid ((HE5.out.below ((Below.refl w5.heap.size w5).alloc (Nat.le_refl _) (.cells #[.int .i64 (k : Int)] 3))).keep (S' := S) (fun p hp _ => World.cell?_of_block (H6.out.2.block p.block (by have h1 := HS.out p.block hp; have h2 := HB5.out.size; simp; omega) (fun e => by have h1 := (HT.out.1.block _ e.symm).1; have h2 := HS.out p.block hp; omega))) (fun b hb => hb))
                  have HB6 := Lib.hid ((HB5.out.alloc HB5.out.size (.cells #[.int .i64 (k : Int)] 3)).grown H6.out.2 (by have h1 := HB5.out.size; simp; omega) (fun j hj => (HT.out.1.block j hj).1))
                  have x1 := m1
                  have n0 := mn
                  clear m1 mn
                  go_wp2_with fail
                  refine (contSym_any Aq cq qr _ _ 51 _ (nonP nn) (by have := HQr.out; omega) HE6.out checks_go (fun x W _ hW => checks1_any nn x (w.heap.size + 1 + 1) W ((HN6.out.below hW HN6.out.lt).cell 0))).mono ?_
                  rintro e w8 ⟨rfl, hb8⟩
                  rw [nonP_any nn ⟨ql, qr⟩]
                  have HT8 := Lib.hid (HT6.out.below hb8 (Nat.le_refl _))
                  have HB8 := Lib.hid (bthen HB6.out hb8 HB6.out.size)
                  clear hb8 x1 n0
                  cases hU : usesP nn ⟨ql, qr⟩
                  · go_wp2_with fail
                    go_roundw
                    case rel => exact ⟨k + 1, oa ++ [(k : Int)], ob, _, _, rfl, rfl, hlt, by go_num, by have h1 := HLa.out; (try simp); omega, by have h1 := HLa.out; omega, by rw [HWa.out, HDr.out]; simp [whereFrom, HQe.out], by rw [HWb.out, HDr.out]; simp [whereFrom, hU], HT8.out, HB8.out⟩
                    case measure => simp [intOf]; omega
                  · go_wp2_with ((at_builtin); (refine wpList_two1 _ rfl _ _ elemInt rfl rfl (HT8.out.swap.alloc _) (k : Int) [.int .i64 (k : Int)] rfl (At.new _ _ _) ⟨rfl, HIk.out⟩ HCa.out.2.2.1 HCa.out.2.2.2 (by have h1 := HB8.out.size; simp; omega) ?_); (intro v9 w9 hT9 hg9 _); (have H9 := Lib.hid (And.intro hT9 hg9)); (clear hT9 hg9))
                    go_roundw
                    case rel => exact ⟨k + 1, oa ++ [(k : Int)], ob ++ [(k : Int)], _, _, rfl, rfl, hlt, by go_num, by have h1 := HLa.out; (try simp); omega, by have h1 := HLa.out; simp; omega, by rw [HWa.out, HDr.out]; simp [whereFrom, HQe.out], by rw [HWb.out, HDr.out]; simp [whereFrom, hU], H9.out.1.swap, (HB8.out.alloc HB8.out.size _).grown H9.out.2 (by have h1 := HB8.out.size; simp; omega) (fun j hj => (HT8.out.2.1.block j hj).1)⟩
                    case measure => simp [intOf]; omega
                · have hqe : (ql == nn) = false := by simp [hql]
                  have HQe := Lib.hid hqe
                  clear hql
                  go_upto_region 29 with (fail)
                  clear x0
                  go_wp2_with fail
                  refine (contSym_any Aq cq qr _ _ 51 _ (nonP nn) (by have := HQr.out; omega) HE5.out checks_go (fun x W _ hW => checks1_any nn x (w.heap.size + 1 + 1) W ((HN5.out.below hW HN5.out.lt).cell 0))).mono ?_
                  rintro e w8 ⟨rfl, hb8⟩
                  rw [nonP_any nn ⟨ql, qr⟩]
                  have HT8 := Lib.hid (HT5.out.below hb8 (Nat.le_refl _))
                  have HB8 := Lib.hid (bthen HB5.out hb8 HB5.out.size)
                  clear hb8 x1 n0
                  cases hU : usesP nn ⟨ql, qr⟩
                  · go_wp2_with fail
                    go_roundw
                    case rel => exact ⟨k + 1, oa, ob, _, _, rfl, rfl, hlt, by go_num, by have h1 := HLa.out; (try simp); omega, by have h1 := HLa.out; omega, by rw [HWa.out, HDr.out]; simp [whereFrom, HQe.out], by rw [HWb.out, HDr.out]; simp [whereFrom, hU], HT8.out, HB8.out⟩
                    case measure => simp [intOf]; omega
                  · go_wp2_with ((at_builtin); (refine wpList_two1 _ rfl _ _ elemInt rfl rfl (HT8.out.swap.alloc _) (k : Int) [.int .i64 (k : Int)] rfl (At.new _ _ _) ⟨rfl, HIk.out⟩ HCa.out.2.2.1 HCa.out.2.2.2 (by have h1 := HB8.out.size; simp; omega) ?_); (intro v9 w9 hT9 hg9 _); (have H9 := Lib.hid (And.intro hT9 hg9)); (clear hT9 hg9))
                    go_roundw
                    case rel => exact ⟨k + 1, oa, ob ++ [(k : Int)], _, _, rfl, rfl, hlt, by go_num, by have h1 := HLa.out; (try simp); omega, by have h1 := HLa.out; simp; omega, by rw [HWa.out, HDr.out]; simp [whereFrom, HQe.out], by rw [HWb.out, HDr.out]; simp [whereFrom, hU], H9.out.1.swap, (HB8.out.alloc HB8.out.size _).grown H9.out.2 (by have h1 := HB8.out.size; simp; omega) (fun j hj => (HT8.out.2.1.block j hj).1)⟩
                    case measure => simp [intOf]; omega
              · have hkk : k = rs.length := by omega
                have hoa : ol = oa := by have h := HWa.out; rw [hkk, List.drop_length] at h; rw [HOl2.out, h]; simp [whereFrom]
                have hob : ul = ob := by have h := HWb.out; rw [hkk, List.drop_length] at h; rw [HUl2.out, h]; simp [whereFrom]
                have hla : oa.length ≤ 1000000 := by have h1 := HLa.out; omega
                have hlb : ob.length ≤ 1000000 := by have h1 := HLa.out; omega
                obtain ⟨Aa, ca, hva, hca1, hca2, hEa⟩ := HT.out.vl1.slice
                obtain ⟨Ab, cb, hvb, hcb1, hcb2, hEb⟩ := HT.out.vl2.slice
                subst hva; subst hvb
                have HEa := Lib.hid hEa
                have HEb := Lib.hid hEb
                have HOa := Lib.hid hoa
                have HOb := Lib.hid hob
                have hola : ol.length ≤ 1000000 := by rw [hoa]; exact hla
                have hulb : ul.length ≤ 1000000 := by rw [hob]; exact hlb
                have hk1 : ¬ (k : Int) < (rs.length : Int) := by omega
                clear hEa hEb hoa hob hkk
                go_wp2_with fail
                refine (eq_trueC Ao Aa ol oa ol.length oa.length co ca _ _ _ HOa.out rfl rfl hola KOo_14.out.vl.els.2.2.2 HEa.out).mono ?_
                rintro e w_15 ⟨rfl, hbz⟩
                have HEb2 := Lib.hid (HEb.out.below hbz)
                have KEA_15 : Hid (Els w_15 S rs A) := Lib.hid (KEA_14.out.below hbz)
                have KEB_15 : Hid (Els w_15 S rs2 B) := Lib.hid (KEB_14.out.below hbz)
                have KEC_15 : Hid (Els w_15 S l C) := Lib.hid (KEC_14.out.below hbz)
                have KA_15 : Hid (Blk' w_15 (w.heap.size) 25 #[.int .i64 gt, .int .i64 gn, .int .i64 gs, .slice A rs.length c]) := Lib.hid (KA_14.out.below hbz KA_14.out.lt)
                have KB_15 : Hid (Blk' w_15 (w.heap.size + 1) 25 #[.int .i64 ht, .int .i64 hn, .int .i64 hs, .slice B rs2.length d]) := Lib.hid (KB_14.out.below hbz KB_14.out.lt)
                have KN_15 : Hid (Blk' w_15 (w.heap.size + 1 + 1) 3 #[.int .i64 nn]) := Lib.hid (KN_14.out.below hbz KN_14.out.lt)
                have KOo_15 : Hid (Own w_15 (fun _ => False) wq8.heap.size 3 (.slice Ao ol.length co) ol) := Lib.hid (KOo_14.out.below hbz (Nat.le_refl _))
                have KOu_15 : Hid (Own w_15 (fun _ => False) w_7.heap.size 3 (.slice Au ul.length cu) ul) := Lib.hid (KOu_14.out.below hbz (Nat.le_refl _))
                have KE1_15 : Hid (Els w_15 (fun b => b < w_9.heap.size) (ys.map (ruleAt rs)) A1) := Lib.hid (KE1_14.out.below hbz)
                have KE2_15 : Hid (Els w_15 (fun b => b < w_9.heap.size) ys A2) := Lib.hid (KE2_14.out.below hbz)
                have KSO_15 : Hid (Blk' w_15 (w_9.heap.size) 25 #[.int .i64 gt, .int .i64 gn, .int .i64 gs, .slice A1 rs.length c1]) := Lib.hid (KSO_14.out.below hbz KSO_14.out.lt)
                have KOB_15 : Hid (Blk' w_15 (w_10.heap.size + 1) 3 (icells ys)) := Lib.hid (KOB_14.out.below hbz KOB_14.out.lt)
                have QB_15 : Hid (Below w.heap.size w w_15) := Lib.hid (bthen QB_14.out hbz QB_14.out.size)
                have sz_15 : wp.heap.size ≤ w_15.heap.size := (hbz).size
                clear hbz
                clear KEA_14 KEB_14 KEC_14 KA_14 KB_14 KN_14 KOo_14 KOu_14 KE1_14 KE2_14 KSO_14 KOB_14 QB_14
                go_wp2_with fail
                refine (eq_trueC Au Ab ul ob ul.length ob.length cu cb _ _ _ HOb.out rfl rfl hulb KOu_15.out.vl.els.2.2.2 HEb2.out).mono ?_
                rintro e w_16 ⟨rfl, hbz⟩
                have KEA_16 : Hid (Els w_16 S rs A) := Lib.hid (KEA_15.out.below hbz)
                have KEB_16 : Hid (Els w_16 S rs2 B) := Lib.hid (KEB_15.out.below hbz)
                have KEC_16 : Hid (Els w_16 S l C) := Lib.hid (KEC_15.out.below hbz)
                have KA_16 : Hid (Blk' w_16 (w.heap.size) 25 #[.int .i64 gt, .int .i64 gn, .int .i64 gs, .slice A rs.length c]) := Lib.hid (KA_15.out.below hbz KA_15.out.lt)
                have KB_16 : Hid (Blk' w_16 (w.heap.size + 1) 25 #[.int .i64 ht, .int .i64 hn, .int .i64 hs, .slice B rs2.length d]) := Lib.hid (KB_15.out.below hbz KB_15.out.lt)
                have KN_16 : Hid (Blk' w_16 (w.heap.size + 1 + 1) 3 #[.int .i64 nn]) := Lib.hid (KN_15.out.below hbz KN_15.out.lt)
                have KOo_16 : Hid (Own w_16 (fun _ => False) wq8.heap.size 3 (.slice Ao ol.length co) ol) := Lib.hid (KOo_15.out.below hbz (Nat.le_refl _))
                have KOu_16 : Hid (Own w_16 (fun _ => False) w_7.heap.size 3 (.slice Au ul.length cu) ul) := Lib.hid (KOu_15.out.below hbz (Nat.le_refl _))
                have KE1_16 : Hid (Els w_16 (fun b => b < w_9.heap.size) (ys.map (ruleAt rs)) A1) := Lib.hid (KE1_15.out.below hbz)
                have KE2_16 : Hid (Els w_16 (fun b => b < w_9.heap.size) ys A2) := Lib.hid (KE2_15.out.below hbz)
                have KSO_16 : Hid (Blk' w_16 (w_9.heap.size) 25 #[.int .i64 gt, .int .i64 gn, .int .i64 gs, .slice A1 rs.length c1]) := Lib.hid (KSO_15.out.below hbz KSO_15.out.lt)
                have KOB_16 : Hid (Blk' w_16 (w_10.heap.size + 1) 3 (icells ys)) := Lib.hid (KOB_15.out.below hbz KOB_15.out.lt)
                have QB_16 : Hid (Below w.heap.size w w_16) := Lib.hid (bthen QB_15.out hbz QB_15.out.size)
                have sz_16 : w_15.heap.size ≤ w_16.heap.size := (hbz).size
                clear hbz
                clear KEA_15 KEB_15 KEC_15 KA_15 KB_15 KN_15 KOo_15 KOu_15 KE1_15 KE2_15 KSO_15 KOB_15 QB_15
                go_wp2
                go_ret
                exact ⟨rfl, QB_16.out⟩
  · skip
    have hwh : WH = E := by rw [HWH.out, HE.out]; unfold whereE; rw [if_pos (by rw [← HE.out]; exact hE0)]
    have hne : ¬ whereE ⟨gt, gn, gs, rs⟩ nn = 0 := by rw [← HWH.out, hwh]; exact hE0
    have ho0 : ol = [] := by rw [HOL.out]; unfold ofL whereL; rw [if_neg hne]
    have hu0 : ul = [] := by rw [HUL.out]; unfold usesL whereL; rw [if_neg hne]
    subst ho0; subst hu0; subst hwh
    clear hne
    have hb0 : ¬ checkI ⟨gt, gn, gs, rs⟩ = 0 := by rw [← HE.out]; exact hE0
    have cA_8_0 : w_8.cell? ⟨w.heap.size, 0, none⟩ = some (.int .i64 gt) := KA_8.out.cell 0
    have cA_8_1 : w_8.cell? ⟨w.heap.size, 1, none⟩ = some (.int .i64 gn) := KA_8.out.cell 1
    have cA_8_2 : w_8.cell? ⟨w.heap.size, 2, none⟩ = some (.int .i64 gs) := KA_8.out.cell 2
    have cA_8_3 : w_8.cell? ⟨w.heap.size, 3, none⟩ = some (.slice A rs.length c) := KA_8.out.cell 3
    have zA_8 : w.heap.size < w_8.heap.size := KA_8.out.lt
    go_wp2_with fail
    refine (sortedBad_any ⟨gt, gn, gs, rs⟩ A c S _ hb0 hlc hc KEA_8.out).mono ?_
    rintro e w_9 ⟨rfl, hbz⟩
    rw [← HE.out]
    clear cA_8_0 cA_8_1 cA_8_2 cA_8_3 zA_8
    have KEA_9 : Hid (Els w_9 S rs A) := Lib.hid (KEA_8.out.below hbz)
    have KEB_9 : Hid (Els w_9 S rs2 B) := Lib.hid (KEB_8.out.below hbz)
    have KEC_9 : Hid (Els w_9 S l C) := Lib.hid (KEC_8.out.below hbz)
    have KA_9 : Hid (Blk' w_9 (w.heap.size) 25 #[.int .i64 gt, .int .i64 gn, .int .i64 gs, .slice A rs.length c]) := Lib.hid (KA_8.out.below hbz KA_8.out.lt)
    have KB_9 : Hid (Blk' w_9 (w.heap.size + 1) 25 #[.int .i64 ht, .int .i64 hn, .int .i64 hs, .slice B rs2.length d]) := Lib.hid (KB_8.out.below hbz KB_8.out.lt)
    have KN_9 : Hid (Blk' w_9 (w.heap.size + 1 + 1) 3 #[.int .i64 nn]) := Lib.hid (KN_8.out.below hbz KN_8.out.lt)
    have QB_9 : Hid (Below w.heap.size w w_9) := Lib.hid (bthen QB_8.out hbz QB_8.out.size)
    have sz_9 : w_8.heap.size ≤ w_9.heap.size := (hbz).size
    clear hbz
    clear KEA_8 KEB_8 KEC_8 KA_8 KB_8 KN_8 QB_8
    clear hb0
    obtain ⟨w_10, hww_10⟩ : ∃ w_10 : World, w_10 = w_9.alloc (.cells #[.int .i64 0, .int .i64 0, .int .i64 0, .slice none 0 0] 25) := ⟨_, rfl⟩
    have hbw_10 : Below w_9.heap.size w_9 w_10 := by rw [hww_10]; exact (Below.refl _ _).alloc (by first | exact Nat.le_refl _ | (simp; done) | (simp; omega)) _
    have sqw_10 : w_10.heap.size = w_9.heap.size + 1 := by rw [hww_10]; simp
    have KEA_10 : Hid (Els w_10 S rs A) := Lib.hid (KEA_9.out.below hbw_10)
    have KEB_10 : Hid (Els w_10 S rs2 B) := Lib.hid (KEB_9.out.below hbw_10)
    have KEC_10 : Hid (Els w_10 S l C) := Lib.hid (KEC_9.out.below hbw_10)
    have KA_10 : Hid (Blk' w_10 (w.heap.size) 25 #[.int .i64 gt, .int .i64 gn, .int .i64 gs, .slice A rs.length c]) := Lib.hid (KA_9.out.below hbw_10 KA_9.out.lt)
    have KB_10 : Hid (Blk' w_10 (w.heap.size + 1) 25 #[.int .i64 ht, .int .i64 hn, .int .i64 hs, .slice B rs2.length d]) := Lib.hid (KB_9.out.below hbw_10 KB_9.out.lt)
    have KN_10 : Hid (Blk' w_10 (w.heap.size + 1 + 1) 3 #[.int .i64 nn]) := Lib.hid (KN_9.out.below hbw_10 KN_9.out.lt)
    have QB_10 : Hid (Below w.heap.size w w_10) := Lib.hid (bthen QB_9.out hbw_10 QB_9.out.size)
    have sz_10 : w_9.heap.size + 1 ≤ w_10.heap.size := by rw [sqw_10]; exact Nat.le_refl _
    have KSO_10 : Hid (Blk' w_10 (w_9.heap.size) 25 #[.int .i64 0, .int .i64 0, .int .i64 0, .slice none 0 0]) := Lib.hid (by rw [hww_10]; exact Blk'.new w_9 _ _)
    have HWw_10 := Lib.hid hww_10
    have SQw_10 := Lib.hid sqw_10
    clear hww_10 hbw_10 sqw_10
    clear KEA_9 KEB_9 KEC_9 KA_9 KB_9 KN_9 QB_9
    have hE1 : (WH != 0) = true := by simpa using hE0
    go_upto_region 11 with (fail)
    rw [← HWw_10.out]
    have cSO_10_0 : w_10.cell? ⟨w_9.heap.size, 0, none⟩ = some (.int .i64 0) := KSO_10.out.cell 0
    have cSO_10_1 : w_10.cell? ⟨w_9.heap.size, 1, none⟩ = some (.int .i64 0) := KSO_10.out.cell 1
    have cSO_10_2 : w_10.cell? ⟨w_9.heap.size, 2, none⟩ = some (.int .i64 0) := KSO_10.out.cell 2
    have cSO_10_3 : w_10.cell? ⟨w_9.heap.size, 3, none⟩ = some (.slice none 0 0) := KSO_10.out.cell 3
    have zSO_10 : w_9.heap.size < w_10.heap.size := KSO_10.out.lt
    clear hE0 hE1
    dsimp only [List.length_nil] at *
    go_wp2_with fail
    refine (sameG_true zeroGc zeroGc none none 0 0 (fun _ => True) (fun _ => True) _ rfl ⟨by simp [zeroGc], by omega⟩ ⟨by simp [zeroGc], by omega⟩ (fun h => absurd rfl h) (fun h => absurd rfl h)).mono ?_
    rintro e w_11 ⟨rfl, hbz⟩
    clear cSO_10_0 cSO_10_1 cSO_10_2 cSO_10_3 zSO_10
    have KEA_11 : Hid (Els w_11 S rs A) := Lib.hid (KEA_10.out.below hbz)
    have KEB_11 : Hid (Els w_11 S rs2 B) := Lib.hid (KEB_10.out.below hbz)
    have KEC_11 : Hid (Els w_11 S l C) := Lib.hid (KEC_10.out.below hbz)
    have KA_11 : Hid (Blk' w_11 (w.heap.size) 25 #[.int .i64 gt, .int .i64 gn, .int .i64 gs, .slice A rs.length c]) := Lib.hid (KA_10.out.below hbz KA_10.out.lt)
    have KB_11 : Hid (Blk' w_11 (w.heap.size + 1) 25 #[.int .i64 ht, .int .i64 hn, .int .i64 hs, .slice B rs2.length d]) := Lib.hid (KB_10.out.below hbz KB_10.out.lt)
    have KN_11 : Hid (Blk' w_11 (w.heap.size + 1 + 1) 3 #[.int .i64 nn]) := Lib.hid (KN_10.out.below hbz KN_10.out.lt)
    have KSO_11 : Hid (Blk' w_11 (w_9.heap.size) 25 #[.int .i64 0, .int .i64 0, .int .i64 0, .slice none 0 0]) := Lib.hid (KSO_10.out.below hbz KSO_10.out.lt)
    have QB_11 : Hid (Below w.heap.size w w_11) := Lib.hid (bthen QB_10.out hbz QB_10.out.size)
    have sz_11 : w_10.heap.size ≤ w_11.heap.size := (hbz).size
    clear hbz
    clear KEA_10 KEB_10 KEC_10 KA_10 KB_10 KN_10 KSO_10 QB_10
    go_wp2
    go_ret
    exact ⟨rfl, QB_11.out⟩

theorem blkAll_symsC : ∀ (l : List Sym), blkAll l = 3 * l.length
  | [] => rfl
  | x :: l => by rw [blkAll, blkAll_symsC l, List.length_cons]; show 3 + _ = _; omega
theorem blkAll_rulesC : ∀ (l : List Rule), 3 * l.length ≤ blkAll l ∧ ∀ q ∈ l, 3 * q.right.length ≤ blkAll l
  | [] => ⟨by simp [blkAll], fun q hq => by simp at hq⟩
  | r :: l => by
    obtain ⟨h1, h2⟩ := blkAll_rulesC l
    have e : blkAll (r :: l) = (2 + (blkAll r.right + 1)) + blkAll l := rfl
    rw [blkAll_symsC] at e
    refine ⟨by rw [List.length_cons]; omega, fun q hq => ?_⟩
    rcases List.mem_cons.1 hq with e' | hq
    · subst e'; omega
    · have := h2 q hq; omega
theorem gram_bulk (g : Gram) (h : Blk.blk g ≤ 1048576) : g.rules.length ≤ 1000000 ∧ ∀ q ∈ g.rules, q.right.length ≤ 1000000 := by
  have e : Blk.blk g = 4 + (blkAll g.rules + 1) := rfl
  obtain ⟨h1, h2⟩ := blkAll_rulesC g.rules
  exact ⟨by omega, fun q hq => by have := h2 q hq; omega⟩
theorem gramChecks_row (g h : Gram) (l : List Int) (most nn : Int) (v0 v1 v2 v3 v4 : Value) (W : World) (h0 : Vl W (OldS W) g v0) (h1 : Vl W (OldS W) h v1) (h2 : Vl W (OldS W) l v2) (h3 : Vl W (OldS W) most v3) (h4 : Vl W (OldS W) nn v4) (hk : Blk.blk g + Blk.blk h + Blk.blk l + Blk.blk most + Blk.blk nn ≤ 1048576) :
    Calls Tryd.prog 7 #[v0, v1, v2, v3, v4] W fun e W' => e = .returned (.bool true) ∧ Below W.heap.size W W' := by
  obtain ⟨s, rfl, i0, i1, i2, hs⟩ := h0.gram
  obtain ⟨s1, rfl, k0, k1, k2, hs1⟩ := h1.gram
  obtain ⟨A, c, rfl, hl, hc, hA⟩ := hs.slice
  obtain ⟨B, d, rfl, hld, hd, hB⟩ := hs1.slice
  obtain ⟨C, f, rfl, hlf, hf, hC⟩ := h2.slice
  obtain ⟨rfl, _⟩ := h3.int
  obtain ⟨rfl, _⟩ := h4.int
  exact gramChecks_any g h l most nn A B C c d f (OldS W) W ⟨i0, i1, i2⟩ hl hc hA hld hd hB hlf hf hC (fun b hb => hb) (gram_bulk g (by omega))
end Go.Proofs.YtaidadjekfcacaaDoor
