/- Contract: the closure of CycleMany: a node of the tree belongs to a nonterminal on a cycle. -/
import Derived.Test.YtjdojogjogenkaaDoorQCycManyP
import Derived.Test.YtjdojogjogenkaaDoorQw2
import Derived.Test.YtjdojogjogenkaaDoorQp2
import Derived.Test.YtjdojogjogenkaaDoorQp1
import Derived.Deep.Cut
namespace Go.Proofs.YtjdojogjogenkaaDoor
open Go.RowKit
set_option linter.unusedVariables false

theorem someL_any (g : Gram) (l : List Bool) : ∀ ks : List Tree, someL g l ks = ks.any (someT g l)
  | [] => rfl
  | k :: ks => by rw [someL, List.any_cons, someL_any g l ks]
theorem vts_vt {g : Gram} : ∀ {ks : List Tree} {ss : List Sym}, vts g ks ss → ∀ k ∈ ks, ∃ s, vt g k s
  | [], _, _, k, h => by simp at h
  | _ :: _, [], h, _, _ => by simp [vts] at h
  | x :: ks, s :: ss, h, k, hk => by
    simp only [vts] at h
    rcases List.mem_cons.1 hk with rfl | hk
    · exact ⟨s, h.1⟩
    · exact vts_vt h.2 k hk

/-- The closure's world: the row of loops in its box, the grammar in its own, the closure in its own. -/
structure SomeS (g : Gram) (l : List Bool) (A L : Option Addr) (c cl LB GB VB : Nat) (Sg Sl : Nat → Prop) (w : World) : Prop where
  lb : Blk' w LB 53 #[.slice L l.length cl]
  gb : Blk' w GB 24 #[.int .i64 g.terms, .int .i64 g.nons, .int .i64 g.start, .slice A g.rules.length c]
  vb : Blk' w VB 57 #[.func (.func 26) #[] #[.pointer (some ⟨LB, 0, none⟩), .pointer (some ⟨GB, 0, none⟩), .pointer (some ⟨VB, 0, none⟩)]]
  ls : Els w Sl l L
  rs : Els w Sg g.rules A
theorem SomeS.below {g : Gram} {l : List Bool} {A L : Option Addr} {c cl LB GB VB : Nat} {Sg Sl : Nat → Prop} {w w' : World} (h : SomeS g l A L c cl LB GB VB Sg Sl w) (hb : Below w.heap.size w w') : SomeS g l A L c cl LB GB VB Sg Sl w' :=
  ⟨h.lb.below hb h.lb.lt, h.gb.below hb h.gb.lt, h.vb.below hb h.vb.lt, h.ls.below hb, h.rs.below hb⟩

set_option maxRecDepth 100000 in
set_option maxHeartbeats 2000000 in
theorem someT_any (g : Gram) (l : List Bool) (A L : Option Addr) (c cl LB GB VB : Nat) (Sg Sl : Nat → Prop) (hln : ∀ q ∈ g.rules, 0 ≤ q.left ∧ q.left < (l.length : Int)) (hrl : g.rules.length ≤ 1000) (S : Nat → Prop) : ∀ (t : Tree) (B : Option Addr) (d : Nat) (w : World), (∃ s, vt g t s) → I64 t.rule → I64 t.term → t.kids.length ≤ d → d ≤ 9223372036854775807 → Els w S t.kids B → SomeS g l A L c cl LB GB VB Sg Sl w →
    Calls Tryd.prog 26 #[.agg #[.int .i64 t.rule, .int .i64 t.term, .slice B t.kids.length d], .pointer (some ⟨LB, 0, none⟩), .pointer (some ⟨GB, 0, none⟩), .pointer (some ⟨VB, 0, none⟩)] w
      fun e w' => e = .returned (.bool (someT g l t)) ∧ Below w.heap.size w w' := by
  refine Tree.ind ?_
  intro r t ks ih B d w hvt hr ht hlc hc hA hst
  have IH := Lib.hid ih
  dsimp only [Tree.rule, Tree.term, Tree.kids] at *
  obtain ⟨w1, hw1⟩ : ∃ w1 : World, w1 = w.alloc (.cells #[.int .i64 r, .int .i64 t, .slice B ks.length d] 27) := ⟨_, rfl⟩
  have HW1 := Lib.hid hw1
  have hba : Below w.heap.size w w1 := by rw [hw1]; exact (Below.refl _ _).alloc (Nat.le_refl _) _
  have HBa := Lib.hid hba
  have HD : Hid (Below w1.heap.size w1 w1.drew) := Lib.hid ((Below.refl _ _).drew)
  have HA := Lib.hid (hA.below hba)
  have HS1 := Lib.hid (hst.below hba)
  have HTB : Hid (Blk' w1 w.heap.size 27 #[.int .i64 r, .int .i64 t, .slice B ks.length d]) := Lib.hid (by rw [hw1]; exact Blk'.new _ _ _)
  have hm : ks.length ≤ 9223372036854775807 := by omega
  have HAll := Lib.hid (show someT g l ⟨r, t, ks⟩ = ((decide (0 ≤ r) && (match g.rules[r.toNat]? with | some q => l.getD q.left.toNat false | none => false)) || ks.any (someT g l)) by rw [someT, someL_any]; rfl)
  have HK := Lib.hid (fun (W : World) (hW : Below w1.heap.size w1 W) (x : Tree) (hx : x ∈ ks) (hv : ∃ s, vt g x s) (A' : Option Addr) (c' : Nat) (h1 : I64 x.rule) (h2 : I64 x.term) (h3 : x.kids.length ≤ c') (h4 : c' ≤ 9223372036854775807) (h5 : Els W S x.kids A') =>
    IH.out x hx A' c' W hv h1 h2 h3 h4 h5 (HS1.out.below hW))
  obtain ⟨s, hvt⟩ := hvt
  unfold vt at hvt
  split at hvt
  · obtain ⟨rfl, ht2, rfl⟩ := hvt
    have HW1 : Hid (w1 = w.alloc (.cells #[.int .i64 (-1), .int .i64 t, .slice B 0 d] 27)) := HW1
    clear ht2 hst hA hba ih hw1
    go_enter Tryd.func26, Tryd.ntmps26
    go_upto_region 1 with (fail)
    rw [← HW1.out]
    have t0 : w1.cell? ⟨w.heap.size, 0, none⟩ = some (.int .i64 (-1)) := HTB.out.cell 0
    have t1 : w1.cell? ⟨w.heap.size, 1, none⟩ = some (.int .i64 t) := HTB.out.cell 1
    have t2 : w1.cell? ⟨w.heap.size, 2, none⟩ = some (.slice B 0 d) := HTB.out.cell 2
    have l0 : w1.cell? ⟨LB, 0, none⟩ = some (.slice L l.length cl) := HS1.out.lb.cell 0
    have g3 : w1.cell? ⟨GB, 3, none⟩ = some (.slice A g.rules.length c) := HS1.out.gb.cell 3
    have v0 : w1.cell? ⟨VB, 0, none⟩ = some (.func (.func 26) #[] #[.pointer (some ⟨LB, 0, none⟩), .pointer (some ⟨GB, 0, none⟩), .pointer (some ⟨VB, 0, none⟩)]) := HS1.out.vb.cell 0
    have zL := HS1.out.lb.lt
    have zG := HS1.out.gb.lt
    have zV := HS1.out.vb.lt
    have zT := HTB.out.lt
    refine wp_region_noPanic ?_
    refine wp_region_held_drew (S := (fun w' => w'.cell? ⟨w.heap.size, 0, none⟩ = some (.int .i64 (-1)) ∧ w'.cell? ⟨w.heap.size, 1, none⟩ = some (.int .i64 t) ∧ w'.cell? ⟨w.heap.size, 2, none⟩ = some (.slice B 0 d) ∧ w'.cell? ⟨LB, 0, none⟩ = some (.slice L l.length cl) ∧ w'.cell? ⟨GB, 3, none⟩ = some (.slice A g.rules.length c) ∧ w'.cell? ⟨VB, 0, none⟩ = some (.func (.func 26) #[] #[.pointer (some ⟨LB, 0, none⟩), .pointer (some ⟨GB, 0, none⟩), .pointer (some ⟨VB, 0, none⟩)]))) (by kernel_rfl) ?ha (fun hHeld => ?ba)
    case ha => ((try dsimp only); go_keep)
    refine take_run (i := 0) (v := ?va0) rfl (by kernel_rfl) (by kernel_rfl) (by kernel_rfl) (fun _ _ _ h => h) (by rfl) ?ya0 (by assumption) ?ra0
    case ya0 => (intro w hSw; (try dsimp only at hSw); go_simp; try with_reducible rfl)
    try simp only [Act.put, List.setIfInBounds_toArray, List.set_cons_zero, List.set_cons_succ]
    refine take_run (i := 1) (v := ?va1) rfl (by kernel_rfl) (by kernel_rfl) (by kernel_rfl) (fun _ _ _ h => h) (by rfl) ?ya1 (by assumption) ?ra1
    case ya1 => (intro w hSw; (try dsimp only at hSw); go_simp; try with_reducible rfl)
    try simp only [Act.put, List.setIfInBounds_toArray, List.set_cons_zero, List.set_cons_succ]
    refine take_run (i := 2) (v := ?va2) rfl (by kernel_rfl) (by kernel_rfl) (by kernel_rfl) (fun _ _ _ h => h) (by rfl) ?ya2 (by assumption) ?ra2
    case ya2 => (intro w hSw; (try dsimp only at hSw); go_simp; try with_reducible rfl)
    try simp only [Act.put, List.setIfInBounds_toArray, List.set_cons_zero, List.set_cons_succ]
    refine take_run (i := 3) (v := ?va3) rfl (by kernel_rfl) (by kernel_rfl) (by kernel_rfl) (fun _ _ _ h => h) (by rfl) ?ya3 (by assumption) ?ra3
    case ya3 => (intro w hSw; (try dsimp only at hSw); go_simp; try with_reducible rfl)
    try simp only [Act.put, List.setIfInBounds_toArray, List.set_cons_zero, List.set_cons_succ]
    refine take_bar (i := 4) rfl (by kernel_rfl) (by kernel_rfl) (by kernel_rfl) (fun _ _ _ h => h) (by rfl) (by assumption) ?_
    try simp only [Act.put, List.setIfInBounds_toArray, List.set_cons_zero, List.set_cons_succ]
    refine take_bar (i := 5) rfl (by kernel_rfl) (by kernel_rfl) (by kernel_rfl) (fun _ _ _ h => h) (by rfl) (by assumption) ?_
    try simp only [Act.put, List.setIfInBounds_toArray, List.set_cons_zero, List.set_cons_succ]
    refine take_bar (i := 6) rfl (by kernel_rfl) (by kernel_rfl) (by kernel_rfl) (fun _ _ _ h => h) (by rfl) (by assumption) ?_
    try simp only [Act.put, List.setIfInBounds_toArray, List.set_cons_zero, List.set_cons_succ]
    refine take_bar (i := 7) rfl (by kernel_rfl) (by kernel_rfl) (by kernel_rfl) (fun _ _ _ h => h) (by rfl) (by assumption) ?_
    try simp only [Act.put, List.setIfInBounds_toArray, List.set_cons_zero, List.set_cons_succ]
    refine take_bar (i := 8) rfl (by kernel_rfl) (by kernel_rfl) (by kernel_rfl) (fun _ _ _ h => h) (by rfl) (by assumption) ?_
    try simp only [Act.put, List.setIfInBounds_toArray, List.set_cons_zero, List.set_cons_succ]
    refine take_bar (i := 9) rfl (by kernel_rfl) (by kernel_rfl) (by kernel_rfl) (fun _ _ _ h => h) (by rfl) (by assumption) ?_
    try simp only [Act.put, List.setIfInBounds_toArray, List.set_cons_zero, List.set_cons_succ]
    refine take_bar (i := 10) rfl (by kernel_rfl) (by kernel_rfl) (by kernel_rfl) (fun _ _ _ h => h) (by rfl) (by assumption) ?_
    try simp only [Act.put, List.setIfInBounds_toArray, List.set_cons_zero, List.set_cons_succ]
    refine take_bar (i := 11) rfl (by kernel_rfl) (by kernel_rfl) (by kernel_rfl) (fun _ _ _ h => h) (by rfl) (by assumption) ?_
    try simp only [Act.put, List.setIfInBounds_toArray, List.set_cons_zero, List.set_cons_succ]
    refine take_bar (i := 12) rfl (by kernel_rfl) (by kernel_rfl) (by kernel_rfl) (fun _ _ _ h => h) (by rfl) (by assumption) ?_
    try simp only [Act.put, List.setIfInBounds_toArray, List.set_cons_zero, List.set_cons_succ]
    refine take_bar (i := 13) rfl (by kernel_rfl) (by kernel_rfl) (by kernel_rfl) (fun _ _ _ h => h) (by rfl) (by assumption) ?_
    try simp only [Act.put, List.setIfInBounds_toArray, List.set_cons_zero, List.set_cons_succ]
    refine take_run (i := 14) (v := ?va14) rfl (by kernel_rfl) (by kernel_rfl) (by kernel_rfl) (fun _ _ _ h => h) (by rfl) ?ya14 (by assumption) ?ra14
    case ya14 => (intro w hSw; (try dsimp only at hSw); go_simp; try with_reducible rfl)
    try simp only [Act.put, List.setIfInBounds_toArray, List.set_cons_zero, List.set_cons_succ]
    refine take_run (i := 15) (v := ?va15) rfl (by kernel_rfl) (by kernel_rfl) (by kernel_rfl) (fun _ _ _ h => h) (by rfl) ?ya15 (by assumption) ?ra15
    case ya15 => (intro w hSw; (try dsimp only at hSw); go_simp; try with_reducible rfl)
    try simp only [Act.put, List.setIfInBounds_toArray, List.set_cons_zero, List.set_cons_succ]
    refine take_run (i := 16) (v := ?va16) rfl (by kernel_rfl) (by kernel_rfl) (by kernel_rfl) (fun _ _ _ h => h) (by rfl) ?ya16 (by assumption) ?ra16
    case ya16 => (intro w hSw; (try dsimp only at hSw); go_simp; try with_reducible rfl)
    try simp only [Act.put, List.setIfInBounds_toArray, List.set_cons_zero, List.set_cons_succ]
    refine take_run (i := 17) (v := ?va17) rfl (by kernel_rfl) (by kernel_rfl) (by kernel_rfl) (fun _ _ _ h => h) (by rfl) ?ya17 (by assumption) ?ra17
    case ya17 => (intro w hSw; (try dsimp only at hSw); go_simp; try with_reducible rfl)
    try simp only [Act.put, List.setIfInBounds_toArray, List.set_cons_zero, List.set_cons_succ]
    refine take_run (i := 18) (v := ?va18) rfl (by kernel_rfl) (by kernel_rfl) (by kernel_rfl) (fun _ _ _ h => h) (by rfl) ?ya18 (by assumption) ?ra18
    case ya18 => (intro w hSw; (try dsimp only at hSw); go_simp; try with_reducible rfl)
    try simp only [Act.put, List.setIfInBounds_toArray, List.set_cons_zero, List.set_cons_succ]
    refine take_call (i := 19) rfl (by kernel_rfl) (by rfl) (fun Kq hK => ?_)
    go_simp
    go_at_call 27
    refine (contTree3_any B d [] S w1.drew _ (.pointer (some ⟨LB, 0, none⟩)) (.pointer (some ⟨GB, 0, none⟩)) (.pointer (some ⟨VB, 0, none⟩)) (someT g l) hm (HA.out.below HD.out) (isGo_of Tryd.func26 (by kernel_rfl) (by kernel_rfl)) (fun x W hx hW A' c' h1 h2 h3 h4 h5 => by simp at hx)).mono ?_
    rintro e w2 ⟨rfl, hb2⟩
    have HB := Lib.hid (bthen (bthen HBa.out HD.out HBa.out.size) hb2 (by have := HBa.out.size; exact this))
    have hb3 : Below w1.heap.size w1 w2 := bthen HD.out hb2 (Nat.le_refl _)
    obtain ⟨hx2, hf2⟩ := bcell hb3
    refine hK.out _ _ ?ha19 (fun hHeld => ?ra19)
    case ha19 => ((try dsimp only); go_keep)
    clear hK Kq
    try simp only [Act.put, List.setIfInBounds_toArray, List.set_cons_zero, List.set_cons_succ]
    refine take_run (i := 20) (v := ?va20) rfl (by kernel_rfl) (by kernel_rfl) (by kernel_rfl) (fun _ _ _ h => h) (by rfl) ?ya20 (by assumption) ?ra20
    case ya20 => (intro w hSw; (try dsimp only at hSw); go_simp; try with_reducible rfl)
    try simp only [Act.put, List.setIfInBounds_toArray, List.set_cons_zero, List.set_cons_succ]
    refine take_run (i := 21) (v := ?va21) rfl (by kernel_rfl) (by kernel_rfl) (by kernel_rfl) (fun _ _ _ h => h) (by rfl) ?ya21 (by assumption) ?ra21
    case ya21 => (intro w hSw; (try dsimp only at hSw); go_simp; try with_reducible rfl)
    try simp only [Act.put, List.setIfInBounds_toArray, List.set_cons_zero, List.set_cons_succ]
    refine wpAnyH_done (by kernel_rfl) ?_ _
    refine NoPanic.normal ?_
    go_wp2
    go_ret
    exact ⟨ret_bool (by rw [HAll.out]; simp), HB.out⟩
  · obtain ⟨ht2, hr0, q, hq, hql, hks⟩ := hvt
    clear ht2
    obtain ⟨i, rfl⟩ : ∃ i : Nat, r = (i : Int) := ⟨r.toNat, by omega⟩
    rw [Int.toNat_natCast] at hq
    have hqm := List.mem_of_getElem? hq
    have hil := (List.getElem?_eq_some_iff.1 hq).1
    obtain ⟨j, hj⟩ : ∃ j : Nat, q.left = (j : Int) := ⟨q.left.toNat, by have := hln q hqm; omega⟩
    have hjl : j < l.length := by have := hln q hqm; omega
    obtain ⟨x, hx⟩ := get_some hjl
    obtain ⟨bl, ol, rfl, _, hbl, hcl⟩ := HS1.out.ls.bool hx
    obtain ⟨br, orr, Ar, cr, rfl, _, hbr, hi1, hi2, _, _, hcr0, hcr1⟩ := HS1.out.rs.rule hq
    rw [hj] at hcr0
    have q1 : (0 : Int) ≤ (i : Int) := by omega
    have q2 : (i : Int) < (g.rules.length : Int) := by omega
    have q3 : (0 : Int) ≤ (j : Int) := by omega
    have q4 : (j : Int) < (l.length : Int) := by omega
    have hr : decide (0 ≤ (i : Int)) = true := decide_eq_true q1
    have HKV := Lib.hid (fun k hk => vts_vt hks k hk)
    have HE := Lib.hid (show someT g l ⟨(i : Int), t, ks⟩ = (x || ks.any (someT g l)) by
      rw [HAll.out, Int.toNat_natCast, hq]
      dsimp only
      rw [hj, Int.toNat_natCast, List.getD_eq_getElem?_getD, hx]
      simp)
    clear hst hA hba ih hq hqm hil hj hx hjl hks HAll hql hr0 hcr1 hw1
    go_enter Tryd.func26, Tryd.ntmps26
    go_upto_region 1 with (fail)
    rw [← HW1.out]
    have t0 : w1.cell? ⟨w.heap.size, 0, none⟩ = some (.int .i64 (i : Int)) := HTB.out.cell 0
    have t1 : w1.cell? ⟨w.heap.size, 1, none⟩ = some (.int .i64 t) := HTB.out.cell 1
    have t2 : w1.cell? ⟨w.heap.size, 2, none⟩ = some (.slice B ks.length d) := HTB.out.cell 2
    have l0 : w1.cell? ⟨LB, 0, none⟩ = some (.slice (some ⟨bl, ol, none⟩) l.length cl) := HS1.out.lb.cell 0
    have g3 : w1.cell? ⟨GB, 3, none⟩ = some (.slice (some ⟨br, orr, none⟩) g.rules.length c) := HS1.out.gb.cell 3
    have v0 : w1.cell? ⟨VB, 0, none⟩ = some (.func (.func 26) #[] #[.pointer (some ⟨LB, 0, none⟩), .pointer (some ⟨GB, 0, none⟩), .pointer (some ⟨VB, 0, none⟩)]) := HS1.out.vb.cell 0
    have zL := HS1.out.lb.lt
    have zG := HS1.out.gb.lt
    have zV := HS1.out.vb.lt
    have zT := HTB.out.lt
    cases x with
    | true =>
      refine wp_region_noPanic ?_
      refine wp_region_held_drew (S := (fun w' => w'.cell? ⟨w.heap.size, 0, none⟩ = some (.int .i64 (i : Int)) ∧ w'.cell? ⟨w.heap.size, 1, none⟩ = some (.int .i64 t) ∧ w'.cell? ⟨w.heap.size, 2, none⟩ = some (.slice B ks.length d) ∧ w'.cell? ⟨LB, 0, none⟩ = some (.slice (some ⟨bl, ol, none⟩) l.length cl) ∧ w'.cell? ⟨GB, 3, none⟩ = some (.slice (some ⟨br, orr, none⟩) g.rules.length c) ∧ w'.cell? ⟨VB, 0, none⟩ = some (.func (.func 26) #[] #[.pointer (some ⟨LB, 0, none⟩), .pointer (some ⟨GB, 0, none⟩), .pointer (some ⟨VB, 0, none⟩)]) ∧ w'.cell? ⟨br, orr + i * 2, none⟩ = some (.int .i64 (j : Int)) ∧ w'.cell? ⟨bl, ol + j, none⟩ = some (.bool true))) (by kernel_rfl) ?hb (fun hHeld => ?bb)
      case hb => ((try dsimp only); go_keep)
      refine take_run (i := 0) (v := ?vb0) rfl (by kernel_rfl) (by kernel_rfl) (by kernel_rfl) (fun _ _ _ h => h) (by rfl) ?yb0 (by assumption) ?rb0
      case yb0 => (intro w hSw; (try dsimp only at hSw); go_simp; try with_reducible rfl)
      try simp only [Act.put, List.setIfInBounds_toArray, List.set_cons_zero, List.set_cons_succ]
      refine take_run (i := 1) (v := ?vb1) rfl (by kernel_rfl) (by kernel_rfl) (by kernel_rfl) (fun _ _ _ h => h) (by rfl) ?yb1 (by assumption) ?rb1
      case yb1 => (intro w hSw; (try dsimp only at hSw); go_simp; try with_reducible rfl)
      try simp only [Act.put, List.setIfInBounds_toArray, List.set_cons_zero, List.set_cons_succ]
      refine take_run (i := 2) (v := .bool true) rfl (by kernel_rfl) (by kernel_rfl) (by kernel_rfl) (fun _ _ _ h => h) (by rfl) ?yb2 (by assumption) ?rb2
      case yb2 => (intro w hSw; (try dsimp only at hSw); try go_simp; first | done | omega | (simp [hr]; done) | trace_state)
      try simp only [Act.put, List.setIfInBounds_toArray, List.set_cons_zero, List.set_cons_succ]
      refine take_run (i := 3) (v := ?vb3) rfl (by kernel_rfl) (by kernel_rfl) (by kernel_rfl) (fun _ _ _ h => h) (by rfl) ?yb3 (by assumption) ?rb3
      case yb3 => (intro w hSw; (try dsimp only at hSw); go_simp; try with_reducible rfl)
      try simp only [Act.put, List.setIfInBounds_toArray, List.set_cons_zero, List.set_cons_succ]
      refine take_run (i := 4) (v := ?vb4) rfl (by kernel_rfl) (by kernel_rfl) (by kernel_rfl) (fun _ _ _ h => h) (by rfl) ?yb4 (by assumption) ?rb4
      case yb4 => (intro w hSw; (try dsimp only at hSw); go_simp; try with_reducible rfl)
      try simp only [Act.put, List.setIfInBounds_toArray, List.set_cons_zero, List.set_cons_succ]
      refine take_run (i := 5) (v := ?vb5) rfl (by kernel_rfl) (by kernel_rfl) (by kernel_rfl) (fun _ _ _ h => h) (by rfl) ?yb5 (by assumption) ?rb5
      case yb5 => (intro w hSw; (try dsimp only at hSw); go_simp; try with_reducible rfl)
      try simp only [Act.put, List.setIfInBounds_toArray, List.set_cons_zero, List.set_cons_succ]
      refine take_run (i := 6) (v := ?vb6) rfl (by kernel_rfl) (by kernel_rfl) (by kernel_rfl) (fun _ _ _ h => h) (by rfl) ?yb6 (by assumption) ?rb6
      case yb6 => (intro w hSw; (try dsimp only at hSw); go_simp; try with_reducible rfl)
      try simp only [Act.put, List.setIfInBounds_toArray, List.set_cons_zero, List.set_cons_succ]
      refine take_run (i := 7) (v := ?vb7) rfl (by kernel_rfl) (by kernel_rfl) (by kernel_rfl) (fun _ _ _ h => h) (by rfl) ?yb7 (by assumption) ?rb7
      case yb7 => (intro w hSw; (try dsimp only at hSw); go_simp; try with_reducible rfl)
      try simp only [Act.put, List.setIfInBounds_toArray, List.set_cons_zero, List.set_cons_succ]
      refine take_run (i := 8) (v := ?vb8) rfl (by kernel_rfl) (by kernel_rfl) (by kernel_rfl) (fun _ _ _ h => h) (by rfl) ?yb8 (by assumption) ?rb8
      case yb8 => (intro w hSw; (try dsimp only at hSw); go_simp; try with_reducible rfl)
      try simp only [Act.put, List.setIfInBounds_toArray, List.set_cons_zero, List.set_cons_succ]
      refine take_run (i := 9) (v := ?vb9) rfl (by kernel_rfl) (by kernel_rfl) (by kernel_rfl) (fun _ _ _ h => h) (by rfl) ?yb9 (by assumption) ?rb9
      case yb9 => (intro w hSw; (try dsimp only at hSw); go_simp; try with_reducible rfl)
      try simp only [Act.put, List.setIfInBounds_toArray, List.set_cons_zero, List.set_cons_succ]
      refine take_run (i := 10) (v := ?vb10) rfl (by kernel_rfl) (by kernel_rfl) (by kernel_rfl) (fun _ _ _ h => h) (by rfl) ?yb10 (by assumption) ?rb10
      case yb10 => (intro w hSw; (try dsimp only at hSw); go_simp; try with_reducible rfl)
      try simp only [Act.put, List.setIfInBounds_toArray, List.set_cons_zero, List.set_cons_succ]
      refine take_run (i := 11) (v := ?vb11) rfl (by kernel_rfl) (by kernel_rfl) (by kernel_rfl) (fun _ _ _ h => h) (by rfl) ?yb11 (by assumption) ?rb11
      case yb11 => (intro w hSw; (try dsimp only at hSw); go_simp; try with_reducible rfl)
      try simp only [Act.put, List.setIfInBounds_toArray, List.set_cons_zero, List.set_cons_succ]
      refine take_run (i := 12) (v := ?vb12) rfl (by kernel_rfl) (by kernel_rfl) (by kernel_rfl) (fun _ _ _ h => h) (by rfl) ?yb12 (by assumption) ?rb12
      case yb12 => (intro w hSw; (try dsimp only at hSw); go_simp; try with_reducible rfl)
      try simp only [Act.put, List.setIfInBounds_toArray, List.set_cons_zero, List.set_cons_succ]
      refine take_run (i := 13) (v := ?vb13) rfl (by kernel_rfl) (by kernel_rfl) (by kernel_rfl) (fun _ _ _ h => h) (by rfl) ?yb13 (by assumption) ?rb13
      case yb13 => (intro w hSw; (try dsimp only at hSw); go_simp; try with_reducible rfl)
      try simp only [Act.put, List.setIfInBounds_toArray, List.set_cons_zero, List.set_cons_succ]
      refine take_run (i := 14) (v := ?vb14) rfl (by kernel_rfl) (by kernel_rfl) (by kernel_rfl) (fun _ _ _ h => h) (by rfl) ?yb14 (by assumption) ?rb14
      case yb14 => (intro w hSw; (try dsimp only at hSw); go_simp; try with_reducible rfl)
      try simp only [Act.put, List.setIfInBounds_toArray, List.set_cons_zero, List.set_cons_succ]
      refine take_run (i := 15) (v := ?vb15) rfl (by kernel_rfl) (by kernel_rfl) (by kernel_rfl) (fun _ _ _ h => h) (by rfl) ?yb15 (by assumption) ?rb15
      case yb15 => (intro w hSw; (try dsimp only at hSw); go_simp; try with_reducible rfl)
      try simp only [Act.put, List.setIfInBounds_toArray, List.set_cons_zero, List.set_cons_succ]
      refine take_bar (i := 16) rfl (by kernel_rfl) (by kernel_rfl) (by kernel_rfl) (fun _ _ _ h => h) (by rfl) (by assumption) ?_
      try simp only [Act.put, List.setIfInBounds_toArray, List.set_cons_zero, List.set_cons_succ]
      refine take_bar (i := 17) rfl (by kernel_rfl) (by kernel_rfl) (by kernel_rfl) (fun _ _ _ h => h) (by rfl) (by assumption) ?_
      try simp only [Act.put, List.setIfInBounds_toArray, List.set_cons_zero, List.set_cons_succ]
      refine take_bar (i := 18) rfl (by kernel_rfl) (by kernel_rfl) (by kernel_rfl) (fun _ _ _ h => h) (by rfl) (by assumption) ?_
      try simp only [Act.put, List.setIfInBounds_toArray, List.set_cons_zero, List.set_cons_succ]
      refine take_bar (i := 19) rfl (by kernel_rfl) (by kernel_rfl) (by kernel_rfl) (fun _ _ _ h => h) (by rfl) (by assumption) ?_
      try simp only [Act.put, List.setIfInBounds_toArray, List.set_cons_zero, List.set_cons_succ]
      refine take_run (i := 20) (v := ?vb20) rfl (by kernel_rfl) (by kernel_rfl) (by kernel_rfl) (fun _ _ _ h => h) (by rfl) ?yb20 (by assumption) ?rb20
      case yb20 => (intro w hSw; (try dsimp only at hSw); go_simp; try with_reducible rfl)
      try simp only [Act.put, List.setIfInBounds_toArray, List.set_cons_zero, List.set_cons_succ]
      refine take_run (i := 21) (v := ?vb21) rfl (by kernel_rfl) (by kernel_rfl) (by kernel_rfl) (fun _ _ _ h => h) (by rfl) ?yb21 (by assumption) ?rb21
      case yb21 => (intro w hSw; (try dsimp only at hSw); go_simp; try with_reducible rfl)
      try simp only [Act.put, List.setIfInBounds_toArray, List.set_cons_zero, List.set_cons_succ]
      refine wpAnyH_done (by kernel_rfl) ?_ _
      refine NoPanic.normal ?_
      go_wp2
      go_ret
      exact ⟨ret_bool (by rw [HE.out]; rfl), HBa.out.drew⟩
    | false =>
      refine wp_region_noPanic ?_
      refine wp_region_held_drew (S := (fun w' => w'.cell? ⟨w.heap.size, 0, none⟩ = some (.int .i64 (i : Int)) ∧ w'.cell? ⟨w.heap.size, 1, none⟩ = some (.int .i64 t) ∧ w'.cell? ⟨w.heap.size, 2, none⟩ = some (.slice B ks.length d) ∧ w'.cell? ⟨LB, 0, none⟩ = some (.slice (some ⟨bl, ol, none⟩) l.length cl) ∧ w'.cell? ⟨GB, 3, none⟩ = some (.slice (some ⟨br, orr, none⟩) g.rules.length c) ∧ w'.cell? ⟨VB, 0, none⟩ = some (.func (.func 26) #[] #[.pointer (some ⟨LB, 0, none⟩), .pointer (some ⟨GB, 0, none⟩), .pointer (some ⟨VB, 0, none⟩)]) ∧ w'.cell? ⟨br, orr + i * 2, none⟩ = some (.int .i64 (j : Int)) ∧ w'.cell? ⟨bl, ol + j, none⟩ = some (.bool false))) (by kernel_rfl) ?hc (fun hHeld => ?bc)
      case hc => ((try dsimp only); go_keep)
      refine take_run (i := 0) (v := ?vc0) rfl (by kernel_rfl) (by kernel_rfl) (by kernel_rfl) (fun _ _ _ h => h) (by rfl) ?yc0 (by assumption) ?rc0
      case yc0 => (intro w hSw; (try dsimp only at hSw); go_simp; try with_reducible rfl)
      try simp only [Act.put, List.setIfInBounds_toArray, List.set_cons_zero, List.set_cons_succ]
      refine take_run (i := 1) (v := ?vc1) rfl (by kernel_rfl) (by kernel_rfl) (by kernel_rfl) (fun _ _ _ h => h) (by rfl) ?yc1 (by assumption) ?rc1
      case yc1 => (intro w hSw; (try dsimp only at hSw); go_simp; try with_reducible rfl)
      try simp only [Act.put, List.setIfInBounds_toArray, List.set_cons_zero, List.set_cons_succ]
      refine take_run (i := 2) (v := .bool true) rfl (by kernel_rfl) (by kernel_rfl) (by kernel_rfl) (fun _ _ _ h => h) (by rfl) ?yc2 (by assumption) ?rc2
      case yc2 => (intro w hSw; (try dsimp only at hSw); try go_simp; first | done | omega | (simp [hr]; done) | trace_state)
      try simp only [Act.put, List.setIfInBounds_toArray, List.set_cons_zero, List.set_cons_succ]
      refine take_run (i := 3) (v := ?vc3) rfl (by kernel_rfl) (by kernel_rfl) (by kernel_rfl) (fun _ _ _ h => h) (by rfl) ?yc3 (by assumption) ?rc3
      case yc3 => (intro w hSw; (try dsimp only at hSw); go_simp; try with_reducible rfl)
      try simp only [Act.put, List.setIfInBounds_toArray, List.set_cons_zero, List.set_cons_succ]
      refine take_run (i := 4) (v := ?vc4) rfl (by kernel_rfl) (by kernel_rfl) (by kernel_rfl) (fun _ _ _ h => h) (by rfl) ?yc4 (by assumption) ?rc4
      case yc4 => (intro w hSw; (try dsimp only at hSw); go_simp; try with_reducible rfl)
      try simp only [Act.put, List.setIfInBounds_toArray, List.set_cons_zero, List.set_cons_succ]
      refine take_run (i := 5) (v := ?vc5) rfl (by kernel_rfl) (by kernel_rfl) (by kernel_rfl) (fun _ _ _ h => h) (by rfl) ?yc5 (by assumption) ?rc5
      case yc5 => (intro w hSw; (try dsimp only at hSw); go_simp; try with_reducible rfl)
      try simp only [Act.put, List.setIfInBounds_toArray, List.set_cons_zero, List.set_cons_succ]
      refine take_run (i := 6) (v := ?vc6) rfl (by kernel_rfl) (by kernel_rfl) (by kernel_rfl) (fun _ _ _ h => h) (by rfl) ?yc6 (by assumption) ?rc6
      case yc6 => (intro w hSw; (try dsimp only at hSw); go_simp; try with_reducible rfl)
      try simp only [Act.put, List.setIfInBounds_toArray, List.set_cons_zero, List.set_cons_succ]
      refine take_run (i := 7) (v := ?vc7) rfl (by kernel_rfl) (by kernel_rfl) (by kernel_rfl) (fun _ _ _ h => h) (by rfl) ?yc7 (by assumption) ?rc7
      case yc7 => (intro w hSw; (try dsimp only at hSw); go_simp; try with_reducible rfl)
      try simp only [Act.put, List.setIfInBounds_toArray, List.set_cons_zero, List.set_cons_succ]
      refine take_run (i := 8) (v := ?vc8) rfl (by kernel_rfl) (by kernel_rfl) (by kernel_rfl) (fun _ _ _ h => h) (by rfl) ?yc8 (by assumption) ?rc8
      case yc8 => (intro w hSw; (try dsimp only at hSw); go_simp; try with_reducible rfl)
      try simp only [Act.put, List.setIfInBounds_toArray, List.set_cons_zero, List.set_cons_succ]
      refine take_run (i := 9) (v := ?vc9) rfl (by kernel_rfl) (by kernel_rfl) (by kernel_rfl) (fun _ _ _ h => h) (by rfl) ?yc9 (by assumption) ?rc9
      case yc9 => (intro w hSw; (try dsimp only at hSw); go_simp; try with_reducible rfl)
      try simp only [Act.put, List.setIfInBounds_toArray, List.set_cons_zero, List.set_cons_succ]
      refine take_run (i := 10) (v := ?vc10) rfl (by kernel_rfl) (by kernel_rfl) (by kernel_rfl) (fun _ _ _ h => h) (by rfl) ?yc10 (by assumption) ?rc10
      case yc10 => (intro w hSw; (try dsimp only at hSw); go_simp; try with_reducible rfl)
      try simp only [Act.put, List.setIfInBounds_toArray, List.set_cons_zero, List.set_cons_succ]
      refine take_run (i := 11) (v := ?vc11) rfl (by kernel_rfl) (by kernel_rfl) (by kernel_rfl) (fun _ _ _ h => h) (by rfl) ?yc11 (by assumption) ?rc11
      case yc11 => (intro w hSw; (try dsimp only at hSw); go_simp; try with_reducible rfl)
      try simp only [Act.put, List.setIfInBounds_toArray, List.set_cons_zero, List.set_cons_succ]
      refine take_run (i := 12) (v := ?vc12) rfl (by kernel_rfl) (by kernel_rfl) (by kernel_rfl) (fun _ _ _ h => h) (by rfl) ?yc12 (by assumption) ?rc12
      case yc12 => (intro w hSw; (try dsimp only at hSw); go_simp; try with_reducible rfl)
      try simp only [Act.put, List.setIfInBounds_toArray, List.set_cons_zero, List.set_cons_succ]
      refine take_run (i := 13) (v := ?vc13) rfl (by kernel_rfl) (by kernel_rfl) (by kernel_rfl) (fun _ _ _ h => h) (by rfl) ?yc13 (by assumption) ?rc13
      case yc13 => (intro w hSw; (try dsimp only at hSw); go_simp; try with_reducible rfl)
      try simp only [Act.put, List.setIfInBounds_toArray, List.set_cons_zero, List.set_cons_succ]
      refine take_run (i := 14) (v := ?vc14) rfl (by kernel_rfl) (by kernel_rfl) (by kernel_rfl) (fun _ _ _ h => h) (by rfl) ?yc14 (by assumption) ?rc14
      case yc14 => (intro w hSw; (try dsimp only at hSw); go_simp; try with_reducible rfl)
      try simp only [Act.put, List.setIfInBounds_toArray, List.set_cons_zero, List.set_cons_succ]
      refine take_run (i := 15) (v := ?vc15) rfl (by kernel_rfl) (by kernel_rfl) (by kernel_rfl) (fun _ _ _ h => h) (by rfl) ?yc15 (by assumption) ?rc15
      case yc15 => (intro w hSw; (try dsimp only at hSw); go_simp; try with_reducible rfl)
      try simp only [Act.put, List.setIfInBounds_toArray, List.set_cons_zero, List.set_cons_succ]
      refine take_run (i := 16) (v := ?vc16) rfl (by kernel_rfl) (by kernel_rfl) (by kernel_rfl) (fun _ _ _ h => h) (by rfl) ?yc16 (by assumption) ?rc16
      case yc16 => (intro w hSw; (try dsimp only at hSw); go_simp; try with_reducible rfl)
      try simp only [Act.put, List.setIfInBounds_toArray, List.set_cons_zero, List.set_cons_succ]
      refine take_run (i := 17) (v := ?vc17) rfl (by kernel_rfl) (by kernel_rfl) (by kernel_rfl) (fun _ _ _ h => h) (by rfl) ?yc17 (by assumption) ?rc17
      case yc17 => (intro w hSw; (try dsimp only at hSw); go_simp; try with_reducible rfl)
      try simp only [Act.put, List.setIfInBounds_toArray, List.set_cons_zero, List.set_cons_succ]
      refine take_run (i := 18) (v := ?vc18) rfl (by kernel_rfl) (by kernel_rfl) (by kernel_rfl) (fun _ _ _ h => h) (by rfl) ?yc18 (by assumption) ?rc18
      case yc18 => (intro w hSw; (try dsimp only at hSw); go_simp; try with_reducible rfl)
      try simp only [Act.put, List.setIfInBounds_toArray, List.set_cons_zero, List.set_cons_succ]
      refine take_call (i := 19) rfl (by kernel_rfl) (by rfl) (fun Kq hK => ?_)
      go_simp
      go_at_call 27
      refine (contTree3_any B d ks S w1.drew _ (.pointer (some ⟨LB, 0, none⟩)) (.pointer (some ⟨GB, 0, none⟩)) (.pointer (some ⟨VB, 0, none⟩)) (someT g l) hm (HA.out.below HD.out) (isGo_of Tryd.func26 (by kernel_rfl) (by kernel_rfl)) (fun x W hx hW A' c' h1 h2 h3 h4 h5 => HK.out W (bthen HD.out hW (Nat.le_refl _)) x hx (HKV.out x hx) A' c' h1 h2 h3 h4 h5)).mono ?_
      rintro e w2 ⟨rfl, hb2⟩
      have HB := Lib.hid (bthen (bthen HBa.out HD.out HBa.out.size) hb2 (by have := HBa.out.size; exact this))
      have hb3 : Below w1.heap.size w1 w2 := bthen HD.out hb2 (Nat.le_refl _)
      obtain ⟨hx2, hf2⟩ := bcell hb3
      refine hK.out _ _ ?hc19 (fun hHeld => ?rc19)
      case hc19 => ((try dsimp only); go_keep)
      clear hK Kq
      try simp only [Act.put, List.setIfInBounds_toArray, List.set_cons_zero, List.set_cons_succ]
      refine take_run (i := 20) (v := ?vc20) rfl (by kernel_rfl) (by kernel_rfl) (by kernel_rfl) (fun _ _ _ h => h) (by rfl) ?yc20 (by assumption) ?rc20
      case yc20 => (intro w hSw; (try dsimp only at hSw); go_simp; try with_reducible rfl)
      try simp only [Act.put, List.setIfInBounds_toArray, List.set_cons_zero, List.set_cons_succ]
      refine take_run (i := 21) (v := ?vc21) rfl (by kernel_rfl) (by kernel_rfl) (by kernel_rfl) (fun _ _ _ h => h) (by rfl) ?yc21 (by assumption) ?rc21
      case yc21 => (intro w hSw; (try dsimp only at hSw); go_simp; try with_reducible rfl)
      try simp only [Act.put, List.setIfInBounds_toArray, List.set_cons_zero, List.set_cons_succ]
      refine wpAnyH_done (by kernel_rfl) ?_ _
      refine NoPanic.normal ?_
      go_wp2
      go_ret
      exact ⟨ret_bool (by rw [HE.out]; rfl), HB.out⟩
end Go.Proofs.YtjdojogjogenkaaDoor
