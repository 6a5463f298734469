/- Contracts: gram.Root, gram.Tree. -/
import Derived.Test.YtnlpeiffbnlncaaDoorQp3
import Derived.Test.YtnlpeiffbnlncaaDoorQw1
import Derived.Test.YtnlpeiffbnlncaaDoorQp1
import Derived.Laws.EntriesVeiled
import Derived.Deep.RegionHeld3
import Derived.Deep.QuietTactic
import Derived.BigQuiet
namespace Go.Proofs.YtnlpeiffbnlncaaDoor
open Go.RowKit
set_option linter.unusedVariables false

set_option maxRecDepth 100000 in
set_option maxHeartbeats 1000000 in
theorem root_any (g : Gram) (A : Option Addr) (c : Nat) (S : Nat → Prop) (r t : Int) (T : Option Addr) (n d : Nat) (ks : List Tree) (w : World) (hc : g.rules.length ≤ 9223372036854775807) (hA : Els w S g.rules A) :
    Calls Tryd.prog 47 #[.agg #[.int .i64 g.terms, .int .i64 g.nons, .int .i64 g.start, .slice A g.rules.length c], .agg #[.int .i64 r, .int .i64 t, .slice T n d]] w
      fun e w' => e = .returned (.agg #[.bool (rootS g ⟨r, t, ks⟩).term, .int .i64 (rootS g ⟨r, t, ks⟩).n]) ∧ Below w.heap.size w w' := by
  obtain ⟨gt, gn, gs, rs⟩ := g
  dsimp only at *
  have HB : Hid (∀ o1 o2 o3 : Obj, Below w.heap.size w (((w.alloc o1).alloc o2).alloc o3)) := Lib.hid (fun o1 o2 o3 => (((Below.refl _ _).alloc (Nat.le_refl _) _).alloc (by simp) _).alloc (by simp; omega) _)
  by_cases h0 : r < 0
  · have HE := Lib.hid (show rootS ⟨gt, gn, gs, rs⟩ ⟨r, t, ks⟩ = ⟨true, t⟩ by simp [rootS, h0])
    go_enter Tryd.func47, Tryd.ntmps47
    go_wp2
    refine bodyPost_ret (v := .agg #[.bool true, .int .i64 t]) (by simp [results, Tryd.results47, go_sem]) rfl ⟨by rw [HE.out], HB.out _ _ _⟩
  · have hn0 : ¬ r < 0 := h0
    by_cases h1 : (rs.length : Int) ≤ r
    · have HE := Lib.hid (show rootS ⟨gt, gn, gs, rs⟩ ⟨r, t, ks⟩ = ⟨true, t⟩ by simp only [rootS, if_neg h0]; rw [List.getElem?_eq_none (by omega)])
      clear h0
      go_enter Tryd.func47, Tryd.ntmps47
      go_wp2
      refine bodyPost_ret (v := .agg #[.bool true, .int .i64 t]) (by simp [results, Tryd.results47, go_sem]) rfl ⟨by rw [HE.out], HB.out _ _ _⟩
    · obtain ⟨q, hq⟩ := get_some (show r.toNat < rs.length by omega)
      obtain ⟨b, o, A', c', rfl, _, hbs, hi, _, _, _, hc0, hc1⟩ := hA.rule hq
      have HE := Lib.hid (show rootS ⟨gt, gn, gs, rs⟩ ⟨r, t, ks⟩ = ⟨false, q.left⟩ by simp only [rootS, if_neg h0]; rw [hq])
      have hr0 : 0 ≤ r := by omega
      have hr1 : r < (rs.length : Int) := by omega
      have hb1 : b < w.heap.size + 1 := by omega
      have hb2 : b < w.heap.size + 1 + 1 := by omega
      have hn1 : ¬ (rs.length : Int) ≤ r := h1
      clear hq h0 h1
      go_enter Tryd.func47, Tryd.ntmps47
      go_wp2
      refine bodyPost_ret (v := .agg #[.bool false, .int .i64 q.left]) (by simp [results, Tryd.results47, go_sem]) rfl ⟨by rw [HE.out], HB.out _ _ _⟩

theorem root_y (g : Gram) (A : Option Addr) (c : Nat) (S : Nat → Prop) (x : Tree) (T : Option Addr) (n d : Nat) (w : World) (hc : g.rules.length ≤ 9223372036854775807) (hA : Els w S g.rules A) (yt : Bool) (yn : Int) (hy : rootS g x = ⟨yt, yn⟩) :
    Calls Tryd.prog 47 #[.agg #[.int .i64 g.terms, .int .i64 g.nons, .int .i64 g.start, .slice A g.rules.length c], .agg #[.int .i64 x.rule, .int .i64 x.term, .slice T n d]] w
      fun e w' => e = .returned (.agg #[.bool yt, .int .i64 yn]) ∧ Below w.heap.size w w' := by
  refine (root_any g A c S x.rule x.term T n d x.kids w hc hA).mono ?_
  rintro e w' ⟨rfl, hb⟩
  have e : (⟨x.rule, x.term, x.kids⟩ : Tree) = x := by cases x; rfl
  rw [e, hy]
  exact ⟨rfl, hb⟩

/-- The world of gram.Tree's closure: the count, the grammar, the closure in their boxes. -/
structure TrS (NB GB VB : Nat) (Sr : Nat → Prop) (g : Gram) (A : Option Addr) (c : Nat) (n : Int) (w : World) : Prop where
  cnt : Blk' w NB 3 #[.int .i64 n]
  gram : Blk' w GB 25 #[.int .i64 g.terms, .int .i64 g.nons, .int .i64 g.start, .slice A g.rules.length c]
  els : Els w Sr g.rules A
  fn : Blk' w VB 90 #[.func (.func 46) #[] #[.pointer (some ⟨NB, 0, none⟩), .pointer (some ⟨GB, 0, none⟩), .pointer (some ⟨VB, 0, none⟩)]]
theorem TrS.below {NB GB VB : Nat} {Sr : Nat → Prop} {g : Gram} {A : Option Addr} {c : Nat} {n : Int} {w w' : World} (h : TrS NB GB VB Sr g A c n w) (hb : Below w.heap.size w w') : TrS NB GB VB Sr g A c n w' :=
  ⟨h.cnt.below hb h.cnt.lt, h.gram.below hb h.gram.lt, h.els.below hb, h.fn.below hb h.fn.lt⟩
theorem TrS.set_ {NB GB VB : Nat} {Sr : Nat → Prop} {g : Gram} {A : Option Addr} {c : Nat} {n m : Int} {w : World} (h : TrS NB GB VB Sr g A c n w) (h1 : NB ≠ GB) (h2 : NB ≠ VB) (h3 : ¬ Sr NB) : TrS NB GB VB Sr g A c m (w.setCell ⟨NB, 0, none⟩ (.int .i64 m)) :=
  ⟨by have := h.cnt.set_ 0 (.int .i64 m); simpa using this, h.gram.far (p := ⟨NB, 0, none⟩) (fun e => h1 e.symm) _, h.els.kept ((Kept.refl (fun b => b = NB) w).setCell (p := ⟨NB, 0, none⟩) (.inl rfl) _) (fun b hb e => h3 (e ▸ hb)), h.fn.far (p := ⟨NB, 0, none⟩) (fun e => h2 e.symm) _⟩

def GtL (NB GB VB : Nat) (Sr : Nat → Prop) (g : Gram) (A : Option Addr) (c : Nat) (ks : List Tree) (ss : List Sym) (n0 : Int) (TB : Nat) (tc : Array Value) (w0 : World) (i : Value) (wr : World) : Prop :=
  ∃ (k : Nat) (m : Int), k ≤ ks.length ∧ i = .int .i64 k ∧ 0 ≤ m ∧ m ≤ 5000 ∧ kidsE g ks ss n0 = kidsE g (ks.drop k) (ss.drop k) m ∧ TrS NB GB VB Sr g A c m wr ∧ Kept (fun b => b = NB) w0 wr ∧ Blk' wr TB 39 tc

set_option maxRecDepth 100000 in
set_option maxHeartbeats 20000000 in
theorem gtree1_any (NB GB VB : Nat) (Sr S : Nat → Prop) (g : Gram) (A : Option Addr) (c : Nat) (hlc : g.rules.length ≤ 1000) (hrr : ∀ q ∈ g.rules, q.right.length ≤ 1000) (h12 : NB ≠ GB ∧ NB ≠ VB ∧ ¬ Sr NB) (hS : ¬ S NB) : ∀ (t : Tree) (B : Option Addr) (d : Nat) (n : Int) (w : World), I64 t.rule → I64 t.term → t.kids.length ≤ d → d ≤ 9223372036854775807 → Els w S t.kids B → 0 ≤ n → n ≤ 5000 → TrS NB GB VB Sr g A c n w →
    Calls Tryd.prog 46 #[.agg #[.int .i64 t.rule, .int .i64 t.term, .slice B t.kids.length d], .pointer (some ⟨NB, 0, none⟩), .pointer (some ⟨GB, 0, none⟩), .pointer (some ⟨VB, 0, none⟩)] w
      fun e w' => e = .returned (.int .i64 (visitE g t n).1) ∧ TrS NB GB VB Sr g A c (visitE g t n).2 w' ∧ Kept (fun b => b = NB) w w' := by
  refine Tree.ind ?_
  intro r t ks ih B d n w hr ht hld hd hB hn0 hn1 hst
  have IH := Lib.hid ih
  have hr' : I64 r := hr
  have ht' : I64 t := ht
  dsimp only [Tree.rule, Tree.term, Tree.kids] at *
  obtain ⟨gt, gn, gs, rs⟩ := g
  dsimp only at *
  obtain ⟨w1, hw1⟩ : ∃ w1 : World, w1 = (w.setCell ⟨NB, 0, none⟩ (.int .i64 (n + 1))).alloc (.cells #[.int .i64 r, .int .i64 t, .slice B ks.length d] 39) := ⟨_, rfl⟩
  have hk1 : Kept (fun b => b = NB) w w1 := by rw [hw1]; exact ((Kept.refl (fun b => b = NB) w).setCell (p := ⟨NB, 0, none⟩) (.inl rfl) _).alloc _
  have hs1 : TrS NB GB VB Sr ⟨gt, gn, gs, rs⟩ A c (n + 1) w1 := by rw [hw1]; exact (hst.set_ h12.1 h12.2.1 h12.2.2).below ((Below.refl _ _).alloc (Nat.le_refl _) _)
  have hT1 : Blk' w1 w.heap.size 39 #[.int .i64 r, .int .i64 t, .slice B ks.length d] := by rw [hw1]; exact Blk'.new' _ _ _ (by simp [World.setCell])
  have HW1 := Lib.hid hw1
  have H12 := Lib.hid h12
  have HS := Lib.hid hS
  have HRR := Lib.hid hrr
  have c0 : w.cell? ⟨NB, 0, none⟩ = some (.int .i64 n) := hst.cnt.cell 0
  have f0 := hst.cnt.frozen 0
  have hNB := hst.cnt.lt
  have hB1 := hB.kept hk1 (fun b hb e => hS (e ▸ hb))
  have HB1 := Lib.hid hB1
  have HB0 := Lib.hid hB
  have HS1 := Lib.hid hs1
  have HK1 := Lib.hid hk1
  have HT1 := Lib.hid hT1
  clear ih hr ht hst hB hw1 hk1 hs1 hT1 h12 hS hrr hB1
  go_enter Tryd.func46, Tryd.ntmps46
  go_upto_region 2 with (fail)
  rw [← HW1.out]
  have n1 : w1.cell? ⟨NB, 0, none⟩ = some (.int .i64 (n + 1)) := HS1.out.cnt.cell 0
  have t0 : w1.cell? ⟨w.heap.size, 0, none⟩ = some (.int .i64 r) := HT1.out.cell 0
  have t1 : w1.cell? ⟨w.heap.size, 1, none⟩ = some (.int .i64 t) := HT1.out.cell 1
  have t2 : w1.cell? ⟨w.heap.size, 2, none⟩ = some (.slice B ks.length d) := HT1.out.cell 2
  have g0 : w1.cell? ⟨GB, 0, none⟩ = some (.int .i64 gt) := HS1.out.gram.cell 0
  have g3 : w1.cell? ⟨GB, 3, none⟩ = some (.slice A rs.length c) := HS1.out.gram.cell 3
  clear HW1 c0 f0
  by_cases h5 : 5000 ≤ n
  · have HE := Lib.hid (show visitE ⟨gt, gn, gs, rs⟩ ⟨r, t, ks⟩ n = (2, n + 1) by simp [visitE, h5])
    have h5' : 5000 < n + 1 := by omega
    clear h5
    go_wp2
    go_ret
    exact ⟨by rw [HE.out]; rfl, by rw [HE.out]; exact HS1.out, HK1.out⟩
  · have h5' : ¬ 5000 < n + 1 := by omega
    by_cases hm : r = -1
    · subst hm
      by_cases hb : t < 0 ∨ gt ≤ t ∨ ks ≠ []
      · have HE := Lib.hid (show visitE ⟨gt, gn, gs, rs⟩ ⟨-1, t, ks⟩ n = (3, n + 1) by simp only [visitE, if_neg h5, if_pos, if_pos hb])
        clear h5
        by_cases ht0 : t < 0
        · clear hb
          go_wp2
          go_ret
          exact ⟨by rw [HE.out]; rfl, by rw [HE.out]; exact HS1.out, HK1.out⟩
        · by_cases ht1 : gt ≤ t
          · clear hb
            go_wp2
            go_ret
            exact ⟨by rw [HE.out]; rfl, by rw [HE.out]; exact HS1.out, HK1.out⟩
          · have hk : 0 < ks.length := by
              cases ks with
              | nil => simp at hb; omega
              | cons a l => simp
            clear hb
            go_wp2
            go_ret
            exact ⟨by rw [HE.out]; rfl, by rw [HE.out]; exact HS1.out, HK1.out⟩
      · have HE := Lib.hid (show visitE ⟨gt, gn, gs, rs⟩ ⟨-1, t, ks⟩ n = (0, n + 1) by simp only [visitE, if_neg h5, if_pos, if_neg hb])
        have ht0 : ¬ t < 0 := fun h => hb (.inl h)
        have ht1 : ¬ gt ≤ t := fun h => hb (.inr (.inl h))
        have hk : ks = [] := by false_or_by_contra; rename_i h; exact hb (.inr (.inr h))
        subst hk
        clear h5 hb
        go_wp2
        go_ret
        exact ⟨by rw [HE.out]; rfl, by rw [HE.out]; exact HS1.out, HK1.out⟩
    · have hm' : (r == -1) = false := by simpa using hm
      by_cases hr0 : r < 0
      · have HE := Lib.hid (show visitE ⟨gt, gn, gs, rs⟩ ⟨r, t, ks⟩ n = (3, n + 1) by simp only [visitE, if_neg h5, if_neg hm, if_pos hr0])
        clear h5 hm
        go_wp2_with fail
        go_quiet (fail)
        go_wp2
        go_ret
        exact ⟨by rw [HE.out]; rfl, by rw [HE.out]; exact HS1.out.below (bdrewN (Below.refl _ _)), HK1.out.trans (Kept.of_below _ (bdrewN (Below.refl _ _)))⟩
      · by_cases hr1 : (rs.length : Int) ≤ r
        · have HE := Lib.hid (show visitE ⟨gt, gn, gs, rs⟩ ⟨r, t, ks⟩ n = (3, n + 1) by simp only [visitE, if_neg h5, if_neg hm, if_neg hr0]; rw [List.getElem?_eq_none (by omega)])
          clear h5 hm
          go_wp2_with fail
          have q1 : decide (r < 0) = false := decide_eq_false (by omega)
          have q2 : decide ((rs.length : Int) ≤ r) = true := decide_eq_true (by omega)
          go_quiet (fail)
          clear q1 q2
          go_wp2
          go_ret
          exact ⟨by rw [HE.out]; rfl, by rw [HE.out]; exact HS1.out.below (bdrewN (Below.refl _ _)), HK1.out.trans (Kept.of_below _ (bdrewN (Below.refl _ _)))⟩
        · obtain ⟨q, hq⟩ := get_some (show r.toNat < rs.length by omega)
          obtain ⟨bq, oq, Aq, cq, rfl, hSb, hbs, hi, hrc, hcr, hEr, hc0, hc1⟩ := HS1.out.els.rule hq
          have HEr := Lib.hid hEr
          have hr00 : 0 ≤ r := by omega
          have hr11 : r < (rs.length : Int) := by omega
          have hqr := HRR.out q (List.mem_of_getElem? hq)
          by_cases ht0 : t = 0
          · subst ht0
            by_cases hkl : ks.length = q.right.length
            · have HE := Lib.hid (show visitE ⟨gt, gn, gs, rs⟩ ⟨r, 0, ks⟩ n = kidsE ⟨gt, gn, gs, rs⟩ ks q.right (n + 1) by simp only [visitE, if_neg h5, if_neg hm, if_neg hr0, hq]; rw [if_neg (by simp [hkl])])
              have hkl' : ((ks.length : Int) != (q.right.length : Int)) = false := by simp; omega
              have HQ := Lib.hid (And.intro hq hkl)
              have hkm : ks.length ≤ 1000 := by omega
              clear h5 hm hq hEr hkl
              go_wp2_with fail
              have q1 : decide (r < 0) = false := decide_eq_false (by omega)
              have q2 : decide ((rs.length : Int) ≤ r) = false := decide_eq_false (by omega)
              go_quiet (fail)
              clear q1 q2
              go_wp2_with fail
              go_loopw [65] (fun i wr => GtL NB GB VB Sr ⟨gt, gn, gs, rs⟩ (some ⟨bq, oq, none⟩) c ks q.right (n + 1) w.heap.size #[.int .i64 r, .int .i64 0, .slice B ks.length d] w i wr) (fun i _ => ks.length - (intOf i).toNat)
              case atStart => exact ⟨0, n + 1, Nat.zero_le _, rfl, by omega, by omega, rfl, HS1.out.below (bdrewN (Below.refl _ _)), HK1.out.trans (Kept.of_below _ (bdrewN (Below.refl _ _))), HT1.out.drewN _⟩
              case round =>
                obtain ⟨wo, hwo⟩ : ∃ wo : World, wo = wr := ⟨_, rfl⟩
                subst hwo
                obtain ⟨k, m, hk, rfl, hm0, hm5, hke, hts, hkp, htb⟩ := hrel
                have HKe := Lib.hid hke
                have HTs := Lib.hid hts
                have HKp := Lib.hid hkp
                have HTb := Lib.hid htb
                have hzo : w.heap.size < wo.heap.size := htb.lt
                clear hke hts hkp htb
                by_cases hlt : k < ks.length
                · obtain ⟨x, hx⟩ := get_some hlt
                  obtain ⟨s, hs⟩ := get_some (show k < q.right.length by have := HQ.out.2; omega)
                  obtain ⟨bk, ok, Ax, cx, rfl, hSk, hbk, hxi, hxt, hx1, hx2, hEx, kc0, kc1, kc2⟩ := (HB0.out.kept HKp.out (fun b hb e => HS.out (e ▸ hb))).tree hx
                  have HDx := Lib.hid (And.intro (drop_cons hx) (drop_cons hs))
                  have HXm := Lib.hid (List.mem_of_getElem? hx)
                  have HXi := Lib.hid (And.intro hxi hxt)
                  have hk0 : (0 : Int) ≤ (k : Int) := by omega
                  have hk1 : (k : Int) < (ks.length : Int) := by omega
                  have hba : Below wo.heap.size wo (wo.alloc (.cells #[.int .i64 x.rule, .int .i64 x.term, .slice Ax x.kids.length cx] 39)) := (Below.refl _ _).alloc (Nat.le_refl _) _
                  have HTsa := Lib.hid (HTs.out.below hba)
                  have HEx := Lib.hid (hEx.below hba)
                  have HKpa := Lib.hid (HKp.out.below hba)
                  have HTba := Lib.hid (HTb.out.below hba HTb.out.lt)
                  have HXb := Lib.hid (Blk'.new wo 39 #[.int .i64 x.rule, .int .i64 x.term, .slice Ax x.kids.length cx])
                  have v0 : wo.cell? ⟨VB, 0, none⟩ = some (.func (.func 46) #[] #[.pointer (some ⟨NB, 0, none⟩), .pointer (some ⟨GB, 0, none⟩), .pointer (some ⟨VB, 0, none⟩)]) := HTs.out.fn.cell 0
                  have hVo : VB < wo.heap.size := HTs.out.fn.lt
                  have HS9 := Lib.hid hs
                  clear hx hs hba hEx hxi hxt
                  go_wp2_with fail
                  refine (IH.out x HXm.out Ax cx m _ HXi.out.1 HXi.out.2 hx1 hx2 HEx.out hm0 hm5 HTsa.out).mono ?_
                  rintro e w3 ⟨rfl, hts3, hk3⟩
                  have hbd := visitE_bd ⟨gt, gn, gs, rs⟩ x m hm0 hm5
                  have HTs3 := Lib.hid hts3
                  have HKp3 := Lib.hid (HKpa.out.trans (hk3.mono (fun b _ h => h)))
                  have hNX : ¬ wo.heap.size = NB := fun e => by have := HTs.out.cnt.lt; omega
                  have HTb3 := Lib.hid (HTba.out.kept hk3 (by have := HKp.out.size; omega))
                  have HXb3 := Lib.hid (HXb.out.kept hk3 hNX)
                  have hk3s := hk3.size
                  have HVis := Lib.hid (show (visitE ⟨gt, gn, gs, rs⟩ x m) = (visitE ⟨gt, gn, gs, rs⟩ x m) from rfl)
                  obtain ⟨ev, hev⟩ : ∃ ev, ev = (visitE ⟨gt, gn, gs, rs⟩ x m).1 := ⟨_, rfl⟩
                  obtain ⟨m2, hm2⟩ : ∃ m2, m2 = (visitE ⟨gt, gn, gs, rs⟩ x m).2 := ⟨_, rfl⟩
                  rw [← hev, ← hm2] at hbd
                  rw [← hev]
                  have HEv := Lib.hid (And.intro hev hm2)
                  clear hev hm2 hts3 hk3 v0
                  by_cases he0 : ev = 0
                  · have HE0 := Lib.hid he0
                    have hd0 : (ev != 0) = false := by simpa using he0
                    have hm20 := hbd.1
                    have hm25 := hbd.2.2.1 he0
                    obtain ⟨y, hy⟩ : ∃ y, y = rootS ⟨gt, gn, gs, rs⟩ x := ⟨_, rfl⟩
                    have HY := Lib.hid hy
                    have HG3 := Lib.hid (And.intro HTs3.out.gram (And.intro HTs3.out.els (And.intro HTb3.out HXb3.out)))
                    obtain ⟨bq', oq', Aq', cq', eqA, hSb', hbs', hi', hrc', hcr', hEr', hc0', hc1'⟩ := HTs3.out.els.rule HQ.out.1
                    injection eqA with eqA
                    injection eqA with eb eo _
                    subst eb; subst eo
                    obtain ⟨bs, os, rfl, hSs, hbss, hsi, sc0, sc1⟩ := hEr'.sym HS9.out
                    have G0 : w3.cell? ⟨GB, 0, none⟩ = some (.int .i64 gt) := HTs3.out.gram.cell 0
                    have G1 : w3.cell? ⟨GB, 1, none⟩ = some (.int .i64 gn) := HTs3.out.gram.cell 1
                    have G2 : w3.cell? ⟨GB, 2, none⟩ = some (.int .i64 gs) := HTs3.out.gram.cell 2
                    have G3 : w3.cell? ⟨GB, 3, none⟩ = some (.slice (some ⟨bq, oq, none⟩) rs.length c) := HTs3.out.gram.cell 3
                    have X0 : w3.cell? ⟨wo.heap.size, 0, none⟩ = some (.int .i64 x.rule) := HXb3.out.cell 0
                    have X1 : w3.cell? ⟨wo.heap.size, 1, none⟩ = some (.int .i64 x.term) := HXb3.out.cell 1
                    have X2 : w3.cell? ⟨wo.heap.size, 2, none⟩ = some (.slice Ax x.kids.length cx) := HXb3.out.cell 2
                    have T0 : w3.cell? ⟨w.heap.size, 0, none⟩ = some (.int .i64 r) := HTb3.out.cell 0
                    have zG : GB < w3.heap.size := HTs3.out.gram.lt
                    have zX : wo.heap.size < w3.heap.size := HXb3.out.lt
                    have zT : w.heap.size < w3.heap.size := HTb3.out.lt
                    have HRd := Lib.hid (show Els w3.drew Sr rs (some ⟨bq, oq, none⟩) from HTs3.out.els.below ((Below.refl _ _).drew))
                    have hkq : (k : Int) < (q.right.length : Int) := by have := HQ.out.2; omega
                    have hrl9 : rs.length ≤ 9223372036854775807 := by omega
                    clear he0 hbd hEr' hc0 hc1 hi hi'
                    clear hy
                    obtain ⟨st, sn⟩ := s
                    dsimp only at hsi sc0 sc1
                    by_cases hys : y = ⟨st, sn⟩
                    · subst hys
                      have HK2 := Lib.hid (show kidsE ⟨gt, gn, gs, rs⟩ ks q.right (n + 1) = kidsE ⟨gt, gn, gs, rs⟩ (ks.drop (k + 1)) (q.right.drop (k + 1)) m2 by
                        rw [HKe.out, HDx.out.1, HDx.out.2, kidsE, if_neg (by rw [← HEv.out.1, HE0.out]; simp), if_neg (by rw [← HY.out]; simp), HEv.out.2])
                      have HY := Lib.hid HY.out.symm
                      go_wp2_with fail
                      go_region_held3 (fun w' => w'.cell? ⟨GB, 0, none⟩ = some (.int .i64 gt) ∧ w'.cell? ⟨GB, 1, none⟩ = some (.int .i64 gn) ∧ w'.cell? ⟨GB, 2, none⟩ = some (.int .i64 gs) ∧ w'.cell? ⟨GB, 3, none⟩ = some (.slice (some ⟨bq, oq, none⟩) rs.length c) ∧ w'.cell? ⟨wo.heap.size, 0, none⟩ = some (.int .i64 x.rule) ∧ w'.cell? ⟨wo.heap.size, 1, none⟩ = some (.int .i64 x.term) ∧ w'.cell? ⟨wo.heap.size, 2, none⟩ = some (.slice Ax x.kids.length cx) ∧ w'.cell? ⟨w.heap.size, 0, none⟩ = some (.int .i64 r) ∧ w'.cell? ⟨bq, oq + r.toNat * 2 + 1, none⟩ = some (.slice (some ⟨bs, os, none⟩) q.right.length cq') ∧ w'.cell? ⟨bs, os + k * 2, none⟩ = some (.bool st) ∧ w'.cell? ⟨bs, os + k * 2 + 1, none⟩ = some (.int .i64 sn)) (go_keep)
                        (first
                        | (go_at_call 47; refine (root_y ⟨gt, gn, gs, rs⟩ (some ⟨bq, oq, none⟩) c Sr x Ax _ cx _ hrl9 HRd.out st sn HY.out).mono ?_; rintro e w4 ⟨rfl, hb4⟩; have H4 := Lib.hid hb4; have K0 := (hb4.cell (p := ⟨GB, 0, none⟩) zG).trans G0; have K1 := (hb4.cell (p := ⟨GB, 1, none⟩) zG).trans G1; have K2 := (hb4.cell (p := ⟨GB, 2, none⟩) zG).trans G2; have K3 := (hb4.cell (p := ⟨GB, 3, none⟩) zG).trans G3; have L0 := (hb4.cell (p := ⟨wo.heap.size, 0, none⟩) zX).trans X0; have L1 := (hb4.cell (p := ⟨wo.heap.size, 1, none⟩) zX).trans X1; have L2 := (hb4.cell (p := ⟨wo.heap.size, 2, none⟩) zX).trans X2; have M0 := (hb4.cell (p := ⟨w.heap.size, 0, none⟩) zT).trans T0; have N0 := (hb4.cell (p := ⟨bq, oq + r.toNat * 2 + 1, none⟩) hbs').trans hc1'; have N1 := (hb4.cell (p := ⟨bs, os + k * 2, none⟩) hbss).trans sc0; have N2 := (hb4.cell (p := ⟨bs, os + k * 2 + 1, none⟩) hbss).trans sc1; clear hb4))
                      all_goals
                        go_wp2
                        go_roundw
                        case rel => exact ⟨k + 1, m2, hlt, by go_num, hm20, hm25, HK2.out, by have h := HTs3.out; rw [← HEv.out.2] at h; exact h.below ((Below.refl _ _).drew.trans H4.out), HKp3.out.below ((Below.refl _ _).drew.trans H4.out), HTb3.out.below ((Below.refl _ _).drew.trans H4.out) zT⟩
                        case measure => simp [intOf]; omega
                    · obtain ⟨yt, yn⟩ := y
                      have HE2 := Lib.hid (show visitE ⟨gt, gn, gs, rs⟩ ⟨r, 0, ks⟩ n = (3, m2) by
                        rw [HE.out, HKe.out, HDx.out.1, HDx.out.2, kidsE, if_neg (by rw [← HEv.out.1, HE0.out]; simp), if_pos (by rw [← HY.out]; exact hys), HEv.out.2])
                      have HY := Lib.hid HY.out.symm
                      have HYs := Lib.hid hys
                      clear hys
                      cases yt <;> cases st
                      · have hnq : (yn == sn) = false := beq_eq_false_iff_ne.2 (fun e => HYs.out (by rw [e]))
                        go_wp2_with fail
                        go_region_held3 (fun w' => w'.cell? ⟨GB, 0, none⟩ = some (.int .i64 gt) ∧ w'.cell? ⟨GB, 1, none⟩ = some (.int .i64 gn) ∧ w'.cell? ⟨GB, 2, none⟩ = some (.int .i64 gs) ∧ w'.cell? ⟨GB, 3, none⟩ = some (.slice (some ⟨bq, oq, none⟩) rs.length c) ∧ w'.cell? ⟨wo.heap.size, 0, none⟩ = some (.int .i64 x.rule) ∧ w'.cell? ⟨wo.heap.size, 1, none⟩ = some (.int .i64 x.term) ∧ w'.cell? ⟨wo.heap.size, 2, none⟩ = some (.slice Ax x.kids.length cx) ∧ w'.cell? ⟨w.heap.size, 0, none⟩ = some (.int .i64 r) ∧ w'.cell? ⟨bq, oq + r.toNat * 2 + 1, none⟩ = some (.slice (some ⟨bs, os, none⟩) q.right.length cq') ∧ w'.cell? ⟨bs, os + k * 2, none⟩ = some (.bool false) ∧ w'.cell? ⟨bs, os + k * 2 + 1, none⟩ = some (.int .i64 sn)) (go_keep)
                          (first
                          | (go_at_call 47; refine (root_y ⟨gt, gn, gs, rs⟩ (some ⟨bq, oq, none⟩) c Sr x Ax _ cx _ hrl9 HRd.out false yn HY.out).mono ?_; rintro e w4 ⟨rfl, hb4⟩; have H4 := Lib.hid hb4; have K0 := (hb4.cell (p := ⟨GB, 0, none⟩) zG).trans G0; have K1 := (hb4.cell (p := ⟨GB, 1, none⟩) zG).trans G1; have K2 := (hb4.cell (p := ⟨GB, 2, none⟩) zG).trans G2; have K3 := (hb4.cell (p := ⟨GB, 3, none⟩) zG).trans G3; have L0 := (hb4.cell (p := ⟨wo.heap.size, 0, none⟩) zX).trans X0; have L1 := (hb4.cell (p := ⟨wo.heap.size, 1, none⟩) zX).trans X1; have L2 := (hb4.cell (p := ⟨wo.heap.size, 2, none⟩) zX).trans X2; have M0 := (hb4.cell (p := ⟨w.heap.size, 0, none⟩) zT).trans T0; have N0 := (hb4.cell (p := ⟨bq, oq + r.toNat * 2 + 1, none⟩) hbs').trans hc1'; have N1 := (hb4.cell (p := ⟨bs, os + k * 2, none⟩) hbss).trans sc0; have N2 := (hb4.cell (p := ⟨bs, os + k * 2 + 1, none⟩) hbss).trans sc1; clear hb4))
                        all_goals
                          go_wp2
                          go_ret
                          exact ⟨by rw [HE2.out]; rfl, by rw [HE2.out]; have h := HTs3.out; rw [← HEv.out.2] at h; exact h.below ((Below.refl _ _).drew.trans H4.out), HKp3.out.below ((Below.refl _ _).drew.trans H4.out)⟩
                      · go_wp2_with fail
                        go_region_held3 (fun w' => w'.cell? ⟨GB, 0, none⟩ = some (.int .i64 gt) ∧ w'.cell? ⟨GB, 1, none⟩ = some (.int .i64 gn) ∧ w'.cell? ⟨GB, 2, none⟩ = some (.int .i64 gs) ∧ w'.cell? ⟨GB, 3, none⟩ = some (.slice (some ⟨bq, oq, none⟩) rs.length c) ∧ w'.cell? ⟨wo.heap.size, 0, none⟩ = some (.int .i64 x.rule) ∧ w'.cell? ⟨wo.heap.size, 1, none⟩ = some (.int .i64 x.term) ∧ w'.cell? ⟨wo.heap.size, 2, none⟩ = some (.slice Ax x.kids.length cx) ∧ w'.cell? ⟨w.heap.size, 0, none⟩ = some (.int .i64 r) ∧ w'.cell? ⟨bq, oq + r.toNat * 2 + 1, none⟩ = some (.slice (some ⟨bs, os, none⟩) q.right.length cq') ∧ w'.cell? ⟨bs, os + k * 2, none⟩ = some (.bool true) ∧ w'.cell? ⟨bs, os + k * 2 + 1, none⟩ = some (.int .i64 sn)) (go_keep)
                          (first
                          | (go_at_call 47; refine (root_y ⟨gt, gn, gs, rs⟩ (some ⟨bq, oq, none⟩) c Sr x Ax _ cx _ hrl9 HRd.out false yn HY.out).mono ?_; rintro e w4 ⟨rfl, hb4⟩; have H4 := Lib.hid hb4; have K0 := (hb4.cell (p := ⟨GB, 0, none⟩) zG).trans G0; have K1 := (hb4.cell (p := ⟨GB, 1, none⟩) zG).trans G1; have K2 := (hb4.cell (p := ⟨GB, 2, none⟩) zG).trans G2; have K3 := (hb4.cell (p := ⟨GB, 3, none⟩) zG).trans G3; have L0 := (hb4.cell (p := ⟨wo.heap.size, 0, none⟩) zX).trans X0; have L1 := (hb4.cell (p := ⟨wo.heap.size, 1, none⟩) zX).trans X1; have L2 := (hb4.cell (p := ⟨wo.heap.size, 2, none⟩) zX).trans X2; have M0 := (hb4.cell (p := ⟨w.heap.size, 0, none⟩) zT).trans T0; have N0 := (hb4.cell (p := ⟨bq, oq + r.toNat * 2 + 1, none⟩) hbs').trans hc1'; have N1 := (hb4.cell (p := ⟨bs, os + k * 2, none⟩) hbss).trans sc0; have N2 := (hb4.cell (p := ⟨bs, os + k * 2 + 1, none⟩) hbss).trans sc1; clear hb4))
                        all_goals
                          go_wp2
                          go_ret
                          exact ⟨by rw [HE2.out]; rfl, by rw [HE2.out]; have h := HTs3.out; rw [← HEv.out.2] at h; exact h.below ((Below.refl _ _).drew.trans H4.out), HKp3.out.below ((Below.refl _ _).drew.trans H4.out)⟩
                      · go_wp2_with fail
                        go_region_held3 (fun w' => w'.cell? ⟨GB, 0, none⟩ = some (.int .i64 gt) ∧ w'.cell? ⟨GB, 1, none⟩ = some (.int .i64 gn) ∧ w'.cell? ⟨GB, 2, none⟩ = some (.int .i64 gs) ∧ w'.cell? ⟨GB, 3, none⟩ = some (.slice (some ⟨bq, oq, none⟩) rs.length c) ∧ w'.cell? ⟨wo.heap.size, 0, none⟩ = some (.int .i64 x.rule) ∧ w'.cell? ⟨wo.heap.size, 1, none⟩ = some (.int .i64 x.term) ∧ w'.cell? ⟨wo.heap.size, 2, none⟩ = some (.slice Ax x.kids.length cx) ∧ w'.cell? ⟨w.heap.size, 0, none⟩ = some (.int .i64 r) ∧ w'.cell? ⟨bq, oq + r.toNat * 2 + 1, none⟩ = some (.slice (some ⟨bs, os, none⟩) q.right.length cq') ∧ w'.cell? ⟨bs, os + k * 2, none⟩ = some (.bool false) ∧ w'.cell? ⟨bs, os + k * 2 + 1, none⟩ = some (.int .i64 sn)) (go_keep)
                          (first
                          | (go_at_call 47; refine (root_y ⟨gt, gn, gs, rs⟩ (some ⟨bq, oq, none⟩) c Sr x Ax _ cx _ hrl9 HRd.out true yn HY.out).mono ?_; rintro e w4 ⟨rfl, hb4⟩; have H4 := Lib.hid hb4; have K0 := (hb4.cell (p := ⟨GB, 0, none⟩) zG).trans G0; have K1 := (hb4.cell (p := ⟨GB, 1, none⟩) zG).trans G1; have K2 := (hb4.cell (p := ⟨GB, 2, none⟩) zG).trans G2; have K3 := (hb4.cell (p := ⟨GB, 3, none⟩) zG).trans G3; have L0 := (hb4.cell (p := ⟨wo.heap.size, 0, none⟩) zX).trans X0; have L1 := (hb4.cell (p := ⟨wo.heap.size, 1, none⟩) zX).trans X1; have L2 := (hb4.cell (p := ⟨wo.heap.size, 2, none⟩) zX).trans X2; have M0 := (hb4.cell (p := ⟨w.heap.size, 0, none⟩) zT).trans T0; have N0 := (hb4.cell (p := ⟨bq, oq + r.toNat * 2 + 1, none⟩) hbs').trans hc1'; have N1 := (hb4.cell (p := ⟨bs, os + k * 2, none⟩) hbss).trans sc0; have N2 := (hb4.cell (p := ⟨bs, os + k * 2 + 1, none⟩) hbss).trans sc1; clear hb4))
                        all_goals
                          go_wp2
                          go_ret
                          exact ⟨by rw [HE2.out]; rfl, by rw [HE2.out]; have h := HTs3.out; rw [← HEv.out.2] at h; exact h.below ((Below.refl _ _).drew.trans H4.out), HKp3.out.below ((Below.refl _ _).drew.trans H4.out)⟩
                      · have hnq : (yn == sn) = false := beq_eq_false_iff_ne.2 (fun e => HYs.out (by rw [e]))
                        go_wp2_with fail
                        go_region_held3 (fun w' => w'.cell? ⟨GB, 0, none⟩ = some (.int .i64 gt) ∧ w'.cell? ⟨GB, 1, none⟩ = some (.int .i64 gn) ∧ w'.cell? ⟨GB, 2, none⟩ = some (.int .i64 gs) ∧ w'.cell? ⟨GB, 3, none⟩ = some (.slice (some ⟨bq, oq, none⟩) rs.length c) ∧ w'.cell? ⟨wo.heap.size, 0, none⟩ = some (.int .i64 x.rule) ∧ w'.cell? ⟨wo.heap.size, 1, none⟩ = some (.int .i64 x.term) ∧ w'.cell? ⟨wo.heap.size, 2, none⟩ = some (.slice Ax x.kids.length cx) ∧ w'.cell? ⟨w.heap.size, 0, none⟩ = some (.int .i64 r) ∧ w'.cell? ⟨bq, oq + r.toNat * 2 + 1, none⟩ = some (.slice (some ⟨bs, os, none⟩) q.right.length cq') ∧ w'.cell? ⟨bs, os + k * 2, none⟩ = some (.bool true) ∧ w'.cell? ⟨bs, os + k * 2 + 1, none⟩ = some (.int .i64 sn)) (go_keep)
                          (first
                          | (go_at_call 47; refine (root_y ⟨gt, gn, gs, rs⟩ (some ⟨bq, oq, none⟩) c Sr x Ax _ cx _ hrl9 HRd.out true yn HY.out).mono ?_; rintro e w4 ⟨rfl, hb4⟩; have H4 := Lib.hid hb4; have K0 := (hb4.cell (p := ⟨GB, 0, none⟩) zG).trans G0; have K1 := (hb4.cell (p := ⟨GB, 1, none⟩) zG).trans G1; have K2 := (hb4.cell (p := ⟨GB, 2, none⟩) zG).trans G2; have K3 := (hb4.cell (p := ⟨GB, 3, none⟩) zG).trans G3; have L0 := (hb4.cell (p := ⟨wo.heap.size, 0, none⟩) zX).trans X0; have L1 := (hb4.cell (p := ⟨wo.heap.size, 1, none⟩) zX).trans X1; have L2 := (hb4.cell (p := ⟨wo.heap.size, 2, none⟩) zX).trans X2; have M0 := (hb4.cell (p := ⟨w.heap.size, 0, none⟩) zT).trans T0; have N0 := (hb4.cell (p := ⟨bq, oq + r.toNat * 2 + 1, none⟩) hbs').trans hc1'; have N1 := (hb4.cell (p := ⟨bs, os + k * 2, none⟩) hbss).trans sc0; have N2 := (hb4.cell (p := ⟨bs, os + k * 2 + 1, none⟩) hbss).trans sc1; clear hb4))
                        all_goals
                          go_wp2
                          go_ret
                          exact ⟨by rw [HE2.out]; rfl, by rw [HE2.out]; have h := HTs3.out; rw [← HEv.out.2] at h; exact h.below ((Below.refl _ _).drew.trans H4.out), HKp3.out.below ((Below.refl _ _).drew.trans H4.out)⟩
                  · have HE2 := Lib.hid (show visitE ⟨gt, gn, gs, rs⟩ ⟨r, 0, ks⟩ n = (ev, m2) by
                      rw [HE.out, HKe.out, HDx.out.1, HDx.out.2, kidsE, if_pos (by rw [← HEv.out.1]; exact he0), HEv.out.1, HEv.out.2])
                    have he0' : (ev != 0) = true := by simpa using he0
                    clear he0 hbd
                    go_wp2
                    go_ret
                    exact ⟨by rw [HE2.out]; rfl, by rw [HE2.out]; have h := HTs3.out; rw [← HEv.out.2] at h; exact h, HKp3.out⟩
                · have HE2 := Lib.hid (show visitE ⟨gt, gn, gs, rs⟩ ⟨r, 0, ks⟩ n = (0, m) by
                    rw [HE.out, HKe.out, List.drop_of_length_le (by omega)]
                    cases (q.right.drop k) <;> rfl)
                  go_wp2
                  go_ret
                  exact ⟨by rw [HE2.out]; rfl, by rw [HE2.out]; exact HTs.out, HKp.out⟩
            · have HE := Lib.hid (show visitE ⟨gt, gn, gs, rs⟩ ⟨r, 0, ks⟩ n = (3, n + 1) by simp only [visitE, if_neg h5, if_neg hm, if_neg hr0, hq]; rw [if_pos (.inr hkl)])
              have hkl' : ((ks.length : Int) != (q.right.length : Int)) = true := by simp; omega
              clear h5 hm hq hEr hkl
              go_wp2_with fail
              have q1 : decide (r < 0) = false := decide_eq_false (by omega)
              have q2 : decide ((rs.length : Int) ≤ r) = false := decide_eq_false (by omega)
              go_quiet (fail)
              clear q1 q2
              go_wp2
              go_ret
              exact ⟨by rw [HE.out]; rfl, by rw [HE.out]; exact HS1.out.below (bdrewN (Below.refl _ _)), HK1.out.trans (Kept.of_below _ (bdrewN (Below.refl _ _)))⟩
          · have HE := Lib.hid (show visitE ⟨gt, gn, gs, rs⟩ ⟨r, t, ks⟩ n = (3, n + 1) by simp only [visitE, if_neg h5, if_neg hm, if_neg hr0, hq]; rw [if_pos (.inl ht0)])
            have ht0' : (t != 0) = true := by simpa using ht0
            clear h5 hm hq hEr ht0
            go_wp2_with fail
            have q1 : decide (r < 0) = false := decide_eq_false (by omega)
            have q2 : decide ((rs.length : Int) ≤ r) = false := decide_eq_false (by omega)
            go_quiet (fail)
            clear q1 q2
            go_wp2
            go_ret
            exact ⟨by rw [HE.out]; rfl, by rw [HE.out]; exact HS1.out.below (bdrewN (Below.refl _ _)), HK1.out.trans (Kept.of_below _ (bdrewN (Below.refl _ _)))⟩

set_option maxRecDepth 100000 in
set_option maxHeartbeats 1000000 in
theorem gtree_any (g : Gram) (A : Option Addr) (c : Nat) (Sr S : Nat → Prop) (t : Tree) (B : Option Addr) (d : Nat) (w : World) (hlc : g.rules.length ≤ 1000) (hrr : ∀ q ∈ g.rules, q.right.length ≤ 1000) (hA : Els w Sr g.rules A) (hSr : ∀ b, Sr b → b < w.heap.size) (hS : ∀ b, S b → b < w.heap.size) (hr : I64 t.rule) (ht : I64 t.term) (hld : t.kids.length ≤ d) (hd : d ≤ 9223372036854775807) (hB : Els w S t.kids B) :
    Calls Tryd.prog 18 #[.agg #[.int .i64 g.terms, .int .i64 g.nons, .int .i64 g.start, .slice A g.rules.length c], .agg #[.int .i64 t.rule, .int .i64 t.term, .slice B t.kids.length d]] w
      fun e w' => e = .returned (.int .i64 (treeE g t)) ∧ Below w.heap.size w w' := by
  obtain ⟨gt, gn, gs, rs⟩ := g
  dsimp only at *
  obtain ⟨w1, hw1⟩ : ∃ w1 : World, w1 = (((w.alloc (.cells #[.int .i64 gt, .int .i64 gn, .int .i64 gs, .slice A rs.length c] 25)).alloc (.cells #[.int .i64 t.rule, .int .i64 t.term, .slice B t.kids.length d] 39)).alloc (.cells #[.int .i64 0] 3)).alloc (.cells #[.func (.func 46) #[] #[.pointer (some ⟨w.heap.size + 1 + 1, 0, none⟩), .pointer (some ⟨w.heap.size, 0, none⟩), .pointer (some ⟨w.heap.size + 1 + 1 + 1, 0, none⟩)]] 90) := ⟨_, rfl⟩
  have hb1 : Below w.heap.size w w1 := by rw [hw1]; exact ((((Below.refl _ _).alloc (Nat.le_refl _) _).alloc (by simp) _).alloc (by simp; omega) _).alloc (by simp; omega) _
  have HTr : Hid (TrS (w.heap.size + 1 + 1) w.heap.size (w.heap.size + 1 + 1 + 1) Sr ⟨gt, gn, gs, rs⟩ A c 0 w1) := Lib.hid (by
    refine ⟨?_, ?_, hA.below hb1, ?_⟩
    · rw [hw1]; exact (Blk'.new' _ _ _ (by simp)).alloc _
    · rw [hw1]; exact (((Blk'.new _ _ _).alloc _).alloc _).alloc _
    · rw [hw1]; exact Blk'.new' _ _ _ (by simp))
  have HB1 := Lib.hid hb1
  have HBt := Lib.hid (hB.below hb1)
  have HW := Lib.hid hw1
  have HR := Lib.hid (And.intro hrr (And.intro hSr (And.intro hS (And.intro hr ht))))
  clear hb1 hw1 hrr hSr hS hr ht hA hB
  go_enter Tryd.func18, Tryd.ntmps18
  go_wp2_with fail
  rw [← HW.out]
  refine (gtree1_any (w.heap.size + 1 + 1) w.heap.size (w.heap.size + 1 + 1 + 1) Sr S ⟨gt, gn, gs, rs⟩ A c hlc HR.out.1 ⟨by omega, by omega, fun h => by have := HR.out.2.1 _ h; omega⟩ (fun h => by have := HR.out.2.2.1 _ h; omega) t B d 0 w1 HR.out.2.2.2.1 HR.out.2.2.2.2 hld hd HBt.out (by omega) (by omega) HTr.out).mono ?_
  rintro e w2 ⟨rfl, _, hk⟩
  have HZ := Lib.hid (HB1.out.trans (hk.to_below (B := w.heap.size) (fun b hb => by omega) HB1.out.size))
  have HE := Lib.hid (show treeE ⟨gt, gn, gs, rs⟩ t = (visitE ⟨gt, gn, gs, rs⟩ t 0).1 from rfl)
  generalize (visitE ⟨gt, gn, gs, rs⟩ t 0).1 = ev at *
  clear hk
  go_wp2
  go_ret
  exact ⟨ret_int HE.out.symm, HZ.out⟩
end Go.Proofs.YtnlpeiffbnlncaaDoor
