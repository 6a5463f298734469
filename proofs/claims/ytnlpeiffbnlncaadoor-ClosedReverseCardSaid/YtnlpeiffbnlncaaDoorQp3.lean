/- Plain facts and definitions of this proof, of several texts joined: Mirror, YieldP, TreeE, TreeEOf. -/
import Derived.Test.YtnlpeiffbnlncaaDoorQp2
import Derived.Shelf.RegionOpen
import Derived.RangeFuncCalls
import Derived.RangeFuncBound
import Derived.Test.YtnlpeiffbnlncaaDoorQp1
/- Contract: closed.Mirror: a range over slices.Backward, and a call of itself in the round. -/
namespace Go.Proofs.YtnlpeiffbnlncaaDoor
open Go.RowKit Go.Shelf
set_option linter.unusedVariables false
attribute [local go_sem] Oper.semAt_some

/-- A kid with what its cells hold in the world w. -/
def KidB (w : World) (S : Nat → Prop) (ks : List Tree) : Type :=
  { p : KidV × Tree // p.2 ∈ ks ∧ p.1.rule = p.2.rule ∧ p.1.term = p.2.term ∧ p.1.n = p.2.kids.length ∧ I64 p.2.rule ∧ I64 p.2.term ∧ p.2.kids.length ≤ p.1.c ∧ p.1.c ≤ 9223372036854775807 ∧ Els w S p.2.kids p.1.A }
def KidB.val {w : World} {S : Nat → Prop} {ks : List Tree} (x : KidB w S ks) : KidV := x.1.1
def KidB.tree {w : World} {S : Nat → Prop} {ks : List Tree} (x : KidB w S ks) : Tree := x.1.2
theorem kids_list {w : World} {S : Nat → Prop} {B : Option Addr} {ks : List Tree} (h : Els w S ks B) : ∃ zs : List (KidB w S ks), zs.map KidB.tree = ks ∧ (ks ≠ [] → ∃ b off, B = some ⟨b, off, none⟩ ∧ S b ∧ ∀ j x, zs[j]? = some x → w.cell? ⟨b, off + j * 3, none⟩ = some (.int .i64 x.val.rule) ∧ w.cell? ⟨b, off + j * 3 + 1, none⟩ = some (.int .i64 x.val.term) ∧ w.cell? ⟨b, off + j * 3 + 1 + 1, none⟩ = some (.slice x.val.A x.val.n x.val.c)) := by
  have key : ∀ n, n ≤ ks.length → ∃ zs : List (KidB w S ks), zs.map KidB.tree = ks.take n ∧ ∀ j x, zs[j]? = some x → ∃ b off, B = some ⟨b, off, none⟩ ∧ S b ∧ w.cell? ⟨b, off + j * 3, none⟩ = some (.int .i64 x.val.rule) ∧ w.cell? ⟨b, off + j * 3 + 1, none⟩ = some (.int .i64 x.val.term) ∧ w.cell? ⟨b, off + j * 3 + 1 + 1, none⟩ = some (.slice x.val.A x.val.n x.val.c) := by
    intro n
    induction n with
    | zero => intro _; exact ⟨[], by simp, fun j x hx => by simp at hx⟩
    | succ n ih =>
      intro hn
      obtain ⟨zs, h1, h2⟩ := ih (by omega)
      obtain ⟨x, hx⟩ := get_some (show n < ks.length by omega)
      obtain ⟨b, o, A', c, hB, hSb, hlt, hr, ht, hl, hc, hE, c0, c1, c2⟩ := h.tree hx
      have hzl : zs.length = n := by have h := congrArg List.length h1; rw [List.length_map, List.length_take] at h; omega
      obtain ⟨z, hz1, hz2⟩ : ∃ z : KidB w S ks, z.val = ⟨x.rule, x.term, A', x.kids.length, c⟩ ∧ z.tree = x := ⟨⟨(⟨x.rule, x.term, A', x.kids.length, c⟩, x), List.mem_of_getElem? hx, rfl, rfl, rfl, hr, ht, hl, hc, hE⟩, rfl, rfl⟩
      refine ⟨zs ++ [z], by rw [List.map_append, h1, take_snoc hx, List.map_singleton, hz2], fun j y hy => ?_⟩
      by_cases hj : j < zs.length
      · rw [List.getElem?_append_left hj] at hy
        exact h2 j y hy
      · rw [List.getElem?_append_right (by omega)] at hy
        have hj0 : j - zs.length = 0 := by have h := (List.getElem?_eq_some_iff.1 hy).1; rw [List.length_singleton] at h; omega
        rw [hj0, List.getElem?_cons_zero] at hy
        injection hy with hy
        subst hy
        have : j = n := by omega
        subst this
        rw [hz1]
        exact ⟨b, o, hB, hSb, c0, c1, c2⟩
  obtain ⟨zs, h1, h2⟩ := key ks.length (Nat.le_refl _)
  rw [List.take_length] at h1
  refine ⟨zs, h1, fun hne => ?_⟩
  obtain ⟨b, o, hA, hb, hx⟩ := h hne
  refine ⟨b, o, hA, hb, fun j x hj => ?_⟩
  obtain ⟨b', o', e, _, q0, q1, q2⟩ := h2 j x hj
  rw [hA] at e
  injection e with e
  injection e with e1 e2 _
  subst e1; subst e2
  exact ⟨q0, q1, q2⟩
def mirP {w : World} {S : Nat → Prop} {ks : List Tree} (pre : List (KidB w S ks × Nat)) : List Tree := pre.map (fun p => mirT p.1.tree)
theorem mirP_snoc {w : World} {S : Nat → Prop} {ks : List Tree} (pre : List (KidB w S ks × Nat)) (x : KidB w S ks × Nat) : mirP (pre ++ [x]) = mirP pre ++ [mirT x.1.tree] := by simp [mirP]
theorem mirP_bwd {w : World} {S : Nat → Prop} {ks : List Tree} (zs : List (KidB w S ks)) (h : zs.map KidB.tree = ks) : mirP (bwd zs) = (ks.map mirT).reverse := by
  unfold mirP bwd
  have h2 := congrArg (List.map mirT) h
  rw [List.map_map] at h2
  rw [List.map_reverse, ← h2]
  congr 1
  rw [show (fun p : KidB w S ks × Nat => mirT p.1.tree) = (mirT ∘ KidB.tree) ∘ Prod.fst from rfl, ← List.map_map, List.zipIdx_map_fst]

theorem Own.isCells {w : World} {S : Nat → Prop} {base : Nat} {e : TypeId} {v : Value} {xs : List Tree} (h : Own w S base e v xs) {j : Nat} {o : Obj} (hj : v.ownBlock = some j) (ho : w.heap[j]? = some o) : o.isCells = true := by
  obtain ⟨css, h1, _⟩ := h
  rcases h1.2 with ⟨rfl, _⟩ | ⟨g', cap, cur, rfl, _, hh, _⟩
  · cases hj
  · have e1 : g' = j := Option.some.inj hj
    subst e1
    rw [hh] at ho
    cases ho
    rfl
theorem Own.frozenAt {w : World} {S : Nat → Prop} {base g n c : Nat} {e : TypeId} {xs : List Tree} (h : Own w S base e (.slice (some ⟨g, 0, none⟩) n c) xs) : ∀ i, w.frozen? ⟨g, i, none⟩ = false := by
  obtain ⟨css, h1, _⟩ := h
  rcases h1.2 with ⟨e1, _⟩ | ⟨g', cap, cur, e1, _, hh, _⟩
  · cases e1
  · injection e1 with e1 _ _
    injection e1 with e1
    injection e1 with e1 _ _
    subst e1
    have hb : Blk' w g e cur := hh
    exact hb.frozen

set_option maxRecDepth 100000 in
set_option maxHeartbeats 4000000 in
theorem mirror_any : ∀ (t : Tree) (S : Nat → Prop) (B : Option Addr) (d : Nat) (w : World), I64 t.rule → I64 t.term → nodesT t ≤ 1100000 → t.kids.length ≤ d → d ≤ 9223372036854775807 → (∀ b, S b → b < w.heap.size) → Els w S t.kids B →
    Calls Tryd.prog 22 #[.agg #[.int .i64 t.rule, .int .i64 t.term, .slice B t.kids.length d]] w (RetMi (mirT t) w) := by
  refine Tree.indM ?_
  intro r t ks ih S B d w hr ht hnd hld hd hS hB
  have IH := Lib.hid ih
  dsimp only [Tree.rule, Tree.term, Tree.kids] at hr ht hnd hld hd hB ⊢
  have HI : Hid (I64 r ∧ I64 t) := Lib.hid ⟨hr, ht⟩
  have hkn : ks.length ≤ 1100000 := by have := len_nodes ks; unfold nodesT at hnd; omega
  have HNd : Hid (∀ k ∈ ks, nodesT k ≤ 1100000) := Lib.hid (fun k hk => by have := nodes_mem hk; unfold nodesT at hnd; omega)
  have HS := Lib.hid hS
  have HB := Lib.hid hB
  have HD := Lib.hid (And.intro hld hd)
  have HKn := Lib.hid hkn
  clear ih hr ht hnd hS hB hld hd hkn
  refine (callsIn_wide (n := 9)).1 ?_
  refine callsIn_of_wp_marks Tryd.func22 rfl trivial ?_ rfl
  simp only [Tryd.ntmps22, List.size_toArray, List.length_cons, List.length_nil, Nat.reduceAdd, Nat.reduceSub, Array.replicate_succ, Array.replicate_zero, List.push_toArray, List.append_toArray, List.nil_append, List.cons_append]
  gi_wp2_with (refine ⟨trivial, ?_⟩; gi_at_call 58; refine (backward_in Fence.wide 8 trivial rfl _ _ _ _).mono ?_; rintro e w' ⟨rfl, rfl⟩)
  obtain ⟨zs, hzs, hzc⟩ := kids_list HB.out
  have hzl : zs.length = ks.length := by have h := congrArg List.length hzs; rwa [List.length_map] at h
  obtain ⟨W0, hW0⟩ : ∃ W0, (((w.alloc (.cells #[.int .i64 r, .int .i64 t, .slice B ks.length d] 39)).alloc (.cells #[.int .i64 0, .int .i64 0, .slice none 0 0] 39)).alloc (.cells #[.int .i64 r, .int .i64 t, .slice none 0 0] 39)).alloc (.cells #[.slice B ks.length d] 37) = W0 := ⟨_, rfl⟩
  have hsz : W0.heap.size = w.heap.size + 4 := by rw [← hW0]; simp
  have hB0 : Below w.heap.size w W0 := by rw [← hW0]; exact ((((Below.refl _ _).alloc (Nat.le_refl _) _).alloc (by simp) _).alloc (by simp; omega) _).alloc (by simp; omega) _
  have hR0 : Blk' W0 (w.heap.size + 1) 39 #[.int .i64 0, .int .i64 0, .slice none 0 0] := by rw [← hW0]; exact ((Blk'.new' _ _ _ (by simp)).alloc _).alloc _
  have hO0 : Blk' W0 (w.heap.size + 1 + 1) 39 #[.int .i64 r, .int .i64 t, .slice none 0 0] := by rw [← hW0]; exact (Blk'.new' _ _ _ (by simp)).alloc _
  have hK0 : Blk' W0 (w.heap.size + 1 + 1 + 1) 37 #[.slice B ks.length d] := by rw [← hW0]; exact Blk'.new' _ _ _ (by simp)
  rw [hW0]
  clear hW0
  refine wpIn_rangeFunc_ownH rfl (by omega) (gf := 86) (lb := #[.pointer (some ⟨w.heap.size + 1 + 1 + 1, 0, none⟩)]) rfl trivial (enters_of Tryd.func86 (by kernel_rfl) rfl)
    (backward_stops Fence.wide 8 trivial rfl (by omega) (w.heap.size + 1 + 1 + 1) (fun b => b = w.heap.size + 1 + 1 ∨ w.heap.size + 4 ≤ b) B d KidB.val zs (by have := HKn.out; omega) W0 (by omega) (by rw [hzl]; exact hK0.cell 0) (fun hne => by
      obtain ⟨b, off, hA, hb, hx⟩ := hzc (fun e => hne (List.eq_nil_of_length_eq_zero (by rw [hzl, e]; rfl)))
      have hbl := HS.out b hb
      exact ⟨b, off, hA, by omega, fun j x hj => by
        obtain ⟨q0, q1, q2⟩ := hx j x hj
        exact ⟨(hB0.cell (p := ⟨b, off + j * 3, none⟩) hbl).trans q0, (hB0.cell (p := ⟨b, off + j * 3 + 1, none⟩) hbl).trans q1, (hB0.cell (p := ⟨b, off + j * 3 + 1 + 1, none⟩) hbl).trans q2⟩⟩))
    (fun h k => h.trans k) (fun W l o o' hl ho _ _ => Kept.of_grown (grownBy_putObj' W l o') (fun k e => by cases e; right; omega)) (Below.refl _ _) (fun _ => rfl)
    (fun pre W => (∃ v, Blk' W (w.heap.size + 1 + 1) 39 #[.int .i64 r, .int .i64 t, v] ∧ Own W (fun _ => False) (w.heap.size + 4) 39 v (mirP pre)) ∧ Blk' W (w.heap.size + 1) 39 #[.int .i64 0, .int .i64 0, .slice none 0 0] ∧ w.heap.size + 4 ≤ W.heap.size ∧ Below w.heap.size w W)
    (fun _ _ _ => False)
    (fun s A' B' row hs hg hr => by
      obtain ⟨⟨v, h1, h2⟩, h3, h5, h4⟩ := hs
      have hr' := fun r e => (hr r e).2
      exact ⟨⟨v, h1.turn hg hr', h2.turn hg hr'⟩, h3.turn hg hr', Nat.le_trans h5 hg.size, ownFrom_below (Nat.le_refl _) (by omega) s A' B' row h4 hg hr⟩)
    (fun _ _ _ _ _ hs _ _ => hs)
    ⟨⟨_, hO0, Own.nil _ _ _ _⟩, hR0, by omega, hB0⟩
    (fun x a' W => ∃ Bx, w.heap.size + 4 ≤ Bx ∧ Blk' W Bx 39 #[.int .i64 x.1.val.rule, .int .i64 x.1.val.term, .slice x.1.val.A x.1.val.n x.1.val.c] ∧ (∃ v, Blk' W (w.heap.size + 1 + 1) 39 #[.int .i64 r, .int .i64 t, v] ∧ v.ownBlock ≠ some Bx) ∧ a' = { tmps := #[.agg #[.int .i64 r, .int .i64 t, .slice B ks.length d], .pointer (some ⟨w.heap.size, 0, none⟩), .pointer (some ⟨w.heap.size + 1, 0, none⟩), .pointer (some ⟨w.heap.size + 1 + 1, 0, none⟩), undef, .pointer (some ⟨Bx, 0, none⟩), .pointer (some ⟨w.heap.size, 0, none⟩), .int .i64 r, .pointer (some ⟨w.heap.size, 1, none⟩), .int .i64 t, .agg #[.int .i64 r, .int .i64 t, .slice none 0 0], .pointer (some ⟨w.heap.size, 2, none⟩), .slice B ks.length d, .func (.func 86) #[] #[.pointer (some ⟨w.heap.size + 1 + 1 + 1, 0, none⟩)], .int .i64 (x.2 : Int), x.1.val.val, undef, undef, undef, undef, undef, undef, undef, undef, undef, undef], defers := [] })
    (fun x a' _ X Y row hs hg hr => by obtain ⟨Bx, h1, h2, ⟨v, h4, h5⟩, h3⟩ := hs; exact ⟨Bx, h1, h2.turn hg (fun r e => (hr r e).2), ⟨v, h4.turn hg (fun r e => (hr r e).2), h5⟩, h3⟩)
    ?assign ?body ?done ?stop
  case assign =>
    rintro l pre x W K ⟨⟨v, h1, h2⟩, h3, h5, h4⟩ hK
    have hK2 := hK
    clear hK
    obtain ⟨⟨⟨⟨xr, xt, xA, xn, xc⟩, xk⟩, xp⟩, xj⟩ := x
    have xp2 := xp
    obtain ⟨hm, e1, e2, e3, _⟩ := xp2
    dsimp only at e1 e2 e3
    dsimp only [KidB.val, KidV.val] at hK2 ⊢
    subst e1; subst e2; subst e3
    gi_wp2
    exact hK2 _ _ ((KeepsOthers.alloc _ _).from _) ((Kept.refl _ _).alloc _) ⟨⟨v, h1.alloc _, h2.below ((Below.refl _ _).alloc (Nat.le_refl _) _) (Nat.le_refl _)⟩, h3.alloc _, by simp; omega, h4.alloc h4.size _⟩ ⟨W.heap.size, h5, Blk'.new _ _ _, ⟨v, h1.alloc _, fun e => by have := (h2.block _ e).2; omega⟩, rfl⟩
  case body =>
    rintro l pre x a' W hl hrec ⟨⟨v, h1, h2⟩, h3, h5, h4⟩ ⟨Bx, hBx, hX, ⟨v', hO', hne'⟩, rfl⟩ hlen
    have hmx : Tryd.prog.follows .mixedOrders = true := by kernel_rfl
    obtain rfl : v = v' := by
      have q1 := h1.cell 2
      have q2 := hO'.cell 2
      rw [q1] at q2
      simpa using q2
    obtain ⟨⟨⟨⟨xr, xt, xA, xn, xc⟩, xk⟩, xp⟩, xj⟩ := x
    have xp2 := xp
    obtain ⟨hm, e1, e2, e3, e4⟩ := xp2
    dsimp only at e1 e2 e3 e4
    dsimp only [KidB.val, KidV.val] at hX ⊢
    subst e1; subst e2; subst e3
    have HXk := Lib.hid e4
    have HLn := Lib.hid (show (mirP pre).length = pre.length by simp [mirP])
    have HLm := Lib.hid (show pre.length ≤ 1100000 by have := HKn.out; omega)
    obtain ⟨Av, cv, hv, _, _, _⟩ := h2.form
    rw [HLn.out] at hv
    subst hv
    have H1 := Lib.hid h1
    have H2 := Lib.hid h2
    have H3 := Lib.hid h3
    have H4 := Lib.hid h4
    have H5 := Lib.hid h5
    have HX := Lib.hid hX
    have HNe := Lib.hid hne'
    have a2 : W.cell? ⟨w.heap.size + 1 + 1, 2, none⟩ = some (.slice Av pre.length cv) := h1.cell 2
    have x0 : W.cell? ⟨Bx, 0, none⟩ = some (.int .i64 xk.rule) := hX.cell 0
    have x1 : W.cell? ⟨Bx, 1, none⟩ = some (.int .i64 xk.term) := hX.cell 1
    have x2 : W.cell? ⟨Bx, 1 + 1, none⟩ = some (.slice xA xk.kids.length xc) := hX.cell 2
    have zX := hX.lt
    have zO := h1.lt
    have HZ := Lib.hid hsz
    clear e4 h1 h2 h3 h4 hX hne' hO' hR0 hO0 hK0 hzc hzs hsz hB0
    gi_wp2
    refine region_round (l := l) hmx (by kernel_rfl) (fun ⟨_, _, h⟩ => h) ?_
    refine wpAny_of_held (S := (fun w' => w'.cell? ⟨Bx, 0, none⟩ = some (.int .i64 xk.rule) ∧ w'.cell? ⟨Bx, 1, none⟩ = some (.int .i64 xk.term) ∧ w'.cell? ⟨Bx, 1 + 1, none⟩ = some (.slice xA xk.kids.length xc))) _ _ _ _ ?_
    have hHeld : (fun w' => w'.cell? ⟨Bx, 0, none⟩ = some (.int .i64 xk.rule) ∧ w'.cell? ⟨Bx, 1, none⟩ = some (.int .i64 xk.term) ∧ w'.cell? ⟨Bx, 1 + 1, none⟩ = some (.slice xA xk.kids.length xc)) W.drew := ⟨x0, x1, x2⟩
    have HBd : Hid (Below W.heap.size W (W.drew)) := Lib.hid ((Below.refl _ _).drew)
    have ad : (W.drew).cell? ⟨w.heap.size + 1 + 1, 2, none⟩ = some (.slice Av pre.length cv) := (HBd.out.cell (p := ⟨w.heap.size + 1 + 1, 2, none⟩) zO).trans a2
    have y0d : (W.drew).cell? ⟨Bx, 0, none⟩ = some (.int .i64 xk.rule) := (HBd.out.cell (p := ⟨Bx, 0, none⟩) zX).trans x0
    have y1d : (W.drew).cell? ⟨Bx, 1, none⟩ = some (.int .i64 xk.term) := (HBd.out.cell (p := ⟨Bx, 1, none⟩) zX).trans x1
    have y2d : (W.drew).cell? ⟨Bx, 1 + 1, none⟩ = some (.slice xA xk.kids.length xc) := (HBd.out.cell (p := ⟨Bx, 1 + 1, none⟩) zX).trans x2
    have zd : w.heap.size + 1 + 1 < (W.drew).heap.size := Nat.lt_of_lt_of_le zO HBd.out.size
    clear hmx
    refine take_run (i := 0) (v := ?vs0) rfl (by kernel_rfl) (by kernel_rfl) (by kernel_rfl) (fun _ _ _ h => h) (by rfl) ?ys0 (by assumption) ?rs0
    case ys0 => (intro w hSw; (try dsimp only at hSw); go_simp; try with_reducible rfl)
    try simp only [Act.put, List.setIfInBounds_toArray, List.set_cons_zero, List.set_cons_succ]
    refine take_run (i := 2) (v := ?vs2) rfl (by kernel_rfl) (by kernel_rfl) (by kernel_rfl) (fun _ _ _ h => h) (by rfl) ?ys2 (by assumption) ?rs2
    case ys2 => (intro w hSw; (try dsimp only at hSw); go_simp; try with_reducible rfl)
    try simp only [Act.put, List.setIfInBounds_toArray, List.set_cons_zero, List.set_cons_succ]
    refine take_three (i := 1) (j := 3) (k := 5) rfl rfl rfl (by kernel_rfl) (by rfl) (by rfl) (by rfl) (fun Kq hK => ?oneb) (fun Kq hK => ?twob) (fun Kq hK => ?thrb)
    case oneb =>
      go_simp
      refine hK.out _ _ ?hbn1 (fun hHeld => ?rbn1)
      case hbn1 => ((try dsimp only); go_keep)
      clear hK Kq
      try simp only [Act.put, List.setIfInBounds_toArray, List.set_cons_zero, List.set_cons_succ]
      refine take_run (i := 4) (v := ?vbn4) rfl (by kernel_rfl) (by kernel_rfl) (by kernel_rfl) (fun _ _ _ h => h) (by rfl) ?ybn4 (by assumption) ?rbn4
      case ybn4 => (intro w hSw; (try dsimp only at hSw); go_simp; try with_reducible rfl)
      try simp only [Act.put, List.setIfInBounds_toArray, List.set_cons_zero, List.set_cons_succ]
      refine take_two (i := 3) (j := 5) rfl rfl (by kernel_rfl) (by rfl) (by rfl) (fun Kq hK => ?onebn) (fun Kq hK => ?twobn)
      case onebn =>
        go_simp
        go_at_call 22
        refine (IH.out xk hm S xA xc _ HXk.out.1 HXk.out.2.1 (HNd.out xk hm) HXk.out.2.2.1 HXk.out.2.2.2.1 (fun b hb => by have q1 := HS.out b hb; have q2 := HBd.out.size; have q3 := H4.out.size; omega) (HXk.out.2.2.2.2.below (bthen H4.out HBd.out H4.out.size))).mono ?_
        rintro e w5_2 ⟨A5, d5, rfl, q1, q2, q3, q4, q5, hb5⟩
        have HQ := Lib.hid (And.intro q1 (And.intro q2 (And.intro q3 q4)))
        have hbn := bthen HBd.out hb5 HBd.out.size
        have HBm2 : Hid (Below W.heap.size W (w5_2)) := Lib.hid (hbn)
        have am2 : (w5_2).cell? ⟨w.heap.size + 1 + 1, 2, none⟩ = some (.slice Av pre.length cv) := (HBm2.out.cell (p := ⟨w.heap.size + 1 + 1, 2, none⟩) zO).trans a2
        have y0m2 : (w5_2).cell? ⟨Bx, 0, none⟩ = some (.int .i64 xk.rule) := (HBm2.out.cell (p := ⟨Bx, 0, none⟩) zX).trans x0
        have y1m2 : (w5_2).cell? ⟨Bx, 1, none⟩ = some (.int .i64 xk.term) := (HBm2.out.cell (p := ⟨Bx, 1, none⟩) zX).trans x1
        have y2m2 : (w5_2).cell? ⟨Bx, 1 + 1, none⟩ = some (.slice xA xk.kids.length xc) := (HBm2.out.cell (p := ⟨Bx, 1 + 1, none⟩) zX).trans x2
        have zm2 : w.heap.size + 1 + 1 < (w5_2).heap.size := Nat.lt_of_lt_of_le zO HBm2.out.size
        have HCm2 : Hid (Els w5_2 (fun b => W.heap.size ≤ b ∧ b < w5_2.heap.size) (mirT xk).kids A5) := Lib.hid (q5.keep (fun _ _ _ => rfl) (fun b hb => ⟨by have q6 := hb.1; have q7 := HBd.out.size; omega, hb.2⟩))
        clear q1 q2 q3 q4 q5 hb5 hbn
        refine hK.out _ _ ?hbno3 (fun hHeld => ?rbno3)
        case hbno3 => ((try dsimp only); go_keep)
        clear hK Kq
        try simp only [Act.put, List.setIfInBounds_toArray, List.set_cons_zero, List.set_cons_succ]
        clear ad y0d y1d y2d
        refine take_call (i := 5) rfl (by kernel_rfl) (by rfl) (fun Kq hK => ?_)
        have HBm3 : Hid (Below W.heap.size W ((w5_2).alloc (.cells #[.int .i64 0, .int .i64 0, .slice none 0 0] 39))) := Lib.hid (HBm2.out.alloc HBm2.out.size _)
        have am3 : ((w5_2).alloc (.cells #[.int .i64 0, .int .i64 0, .slice none 0 0] 39)).cell? ⟨w.heap.size + 1 + 1, 2, none⟩ = some (.slice Av pre.length cv) := (HBm3.out.cell (p := ⟨w.heap.size + 1 + 1, 2, none⟩) zO).trans a2
        have y0m3 : ((w5_2).alloc (.cells #[.int .i64 0, .int .i64 0, .slice none 0 0] 39)).cell? ⟨Bx, 0, none⟩ = some (.int .i64 xk.rule) := (HBm3.out.cell (p := ⟨Bx, 0, none⟩) zX).trans x0
        have y1m3 : ((w5_2).alloc (.cells #[.int .i64 0, .int .i64 0, .slice none 0 0] 39)).cell? ⟨Bx, 1, none⟩ = some (.int .i64 xk.term) := (HBm3.out.cell (p := ⟨Bx, 1, none⟩) zX).trans x1
        have y2m3 : ((w5_2).alloc (.cells #[.int .i64 0, .int .i64 0, .slice none 0 0] 39)).cell? ⟨Bx, 1 + 1, none⟩ = some (.slice xA xk.kids.length xc) := (HBm3.out.cell (p := ⟨Bx, 1 + 1, none⟩) zX).trans x2
        have zm3 : w.heap.size + 1 + 1 < ((w5_2).alloc (.cells #[.int .i64 0, .int .i64 0, .slice none 0 0] 39)).heap.size := Nat.lt_of_lt_of_le zO HBm3.out.size
        have HLm3 : Hid (Blk' ((w5_2).alloc (.cells #[.int .i64 0, .int .i64 0, .slice none 0 0] 39)) (w5_2).heap.size 39 #[.int .i64 0, .int .i64 0, .slice none 0 0]) := Lib.hid (Blk'.new _ _ _)
        have HCm3 : Hid (Els ((w5_2).alloc (.cells #[.int .i64 0, .int .i64 0, .slice none 0 0] 39)) (fun b => W.heap.size ≤ b ∧ b < ((w5_2).alloc (.cells #[.int .i64 0, .int .i64 0, .slice none 0 0] 39)).heap.size) (mirT xk).kids A5) := Lib.hid ((HCm2.out.below ((Below.refl _ _).alloc (Nat.le_refl _) _)).keep (fun _ _ _ => rfl) (fun b hb => ⟨hb.1, by have q6 := hb.2; simp; omega⟩))
        go_simp
        refine hK.out _ _ ?hbnoa5 (fun hHeld => ?rbnoa5)
        case hbnoa5 => ((try dsimp only); go_keep)
        clear hK Kq
        try simp only [Act.put, List.setIfInBounds_toArray, List.set_cons_zero, List.set_cons_succ]
        clear am2 y0m2 y1m2 y2m2
        refine take_call (i := 6) rfl (by kernel_rfl) (by rfl) (fun Kq hK => ?_)
        have HOw := Lib.hid (H2.out.below HBm3.out (Nat.le_refl _))
        have HAt : Hid (At ((w5_2).alloc (.cells #[.int .i64 0, .int .i64 0, .slice none 0 0] 39)) ((w5_2).heap.size) 0 [.int .i64 0, .int .i64 0, .slice none 0 0]) := Lib.hid (fun j u hu => by rw [Nat.zero_add, HLm3.out.cell]; simpa using hu)
        refine wp_own1 _ _ _ elemTree rfl rfl HOw.out zeroT [.int .i64 0, .int .i64 0, .slice none 0 0] rfl HAt.out (rd_tree.2 ⟨_, rfl, by show I64 0; unfold I64; omega, by show I64 0; unfold I64; omega, Vl.nil⟩) (by rw [HLn.out]; have q1 := HLm.out; omega) (by rw [HLn.out]; have q1 := HLm.out; omega) (by have q1 := HBm3.out.size; have q2 := H5.out; omega) ?_
        intro v7 w7 hown7 hg7 hat7
        obtain ⟨A7, c7, hv7, hc71, hc72, hor⟩ := hown7.form
        rw [snoc_len, HLn.out] at hv7
        obtain ⟨g7, eA7, hg70, hg71⟩ := hor.resolve_left (by simp)
        subst eA7
        subst hv7
        have HG := Lib.hid (And.intro hg70 hg71)
        have hne7 : ∀ k, k < w.heap.size + 4 ∨ k = Bx → some k ≠ (Value.slice Av pre.length cv).ownBlock := fun k hk e => by have q1 := (H2.out.block k e.symm).1; rcases hk with hk | hk; omega; exact HNe.out (by rw [← hk]; exact e.symm)
        have hO7 := (H1.out.below HBm3.out zO).grown hg7 (hne7 _ (.inl (by omega)))
        have hR7 := (H3.out.below HBm3.out (by omega)).grown hg7 (hne7 _ (.inl (by omega)))
        have hX7 := (HX.out.below HBm3.out zX).grown hg7 (hne7 _ (.inr rfl))
        have H7 := Lib.hid (And.intro hown7 (And.intro hg7 (And.intro hO7 hR7)))
        have m3 : w7.cell? ⟨w.heap.size + 1 + 1, 2, none⟩ = some (.slice Av pre.length cv) := hO7.cell 2
        have f3 := hO7.frozen 2
        have u0 : w7.cell? ⟨Bx, 0, none⟩ = some (.int .i64 xk.rule) := hX7.cell 0
        have u1 : w7.cell? ⟨Bx, 1, none⟩ = some (.int .i64 xk.term) := hX7.cell 1
        have u2 : w7.cell? ⟨Bx, 1 + 1, none⟩ = some (.slice xA xk.kids.length xc) := hX7.cell 2
        have zO7 : w.heap.size + 1 + 1 < w7.heap.size := hO7.lt
        have zX7 : Bx < w7.heap.size := hX7.lt
        obtain ⟨g8, c8, cs8, e8, _, _, hrd8, hat8⟩ := hown7.at_ (k := pre.length) (x := zeroT) (by rw [← HLn.out]; simp)
        injection e8 with e8 e81 e82
        clear e81 e82
        injection e8 with e8
        injection e8 with e8 e81 e82
        clear e81 e82
        subst e8
        obtain ⟨v8, rfl, _, _, hv8⟩ := rd_tree.1 hrd8
        have k0 : w7.cell? ⟨g7, pre.length * 3, none⟩ = some (.int .i64 0) := by have q := hat8 0 _ rfl; exact q
        have k1 : w7.cell? ⟨g7, pre.length * 3 + 1, none⟩ = some (.int .i64 0) := by have q := hat8 1 _ rfl; exact q
        have k2 : w7.cell? ⟨g7, pre.length * 3 + 1 + 1, none⟩ = some v8 := by have q := hat8 2 _ rfl; exact q
        have hfz := hown7.frozenAt
        have fk0 := hfz (pre.length * 3)
        have fk1 := hfz (pre.length * 3 + 1)
        have fk2 := hfz (pre.length * 3 + 1 + 1)
        have ng : ¬ g7 = w.heap.size + 1 + 1 := by omega
        have ng2 : ¬ w.heap.size + 1 + 1 = g7 := by omega
        have HA7 : Hid (∀ b, W.heap.size ≤ b → b < ((w5_2).alloc (.cells #[.int .i64 0, .int .i64 0, .slice none 0 0] 39)).heap.size → (Value.slice (some ⟨g7, 0, none⟩) (pre.length + 1) c7).ownBlock ≠ some b) := Lib.hid (fun b q1 q2 e => by rcases hat7 with q | q; (rw [e] at q; have q3 := (H2.out.block b q.symm).2; omega); (rw [e] at q; have q3 : b = ((w5_2).alloc (.cells #[.int .i64 0, .int .i64 0, .slice none 0 0] 39)).heap.size := Option.some.inj q; omega))
        have HgX : Hid (g7 ≠ Bx) := Lib.hid (by rcases hat7 with q | q; (intro e; rw [e] at q; exact HNe.out q.symm); (have q2 : g7 = ((w5_2).alloc (.cells #[.int .i64 0, .int .i64 0, .slice none 0 0] 39)).heap.size := Option.some.inj q; have q1 := HBm3.out.size; omega))
        have ng5 : ¬ Bx = w.heap.size + 1 + 1 := by omega
        have ng6 : ¬ w.heap.size + 1 + 1 = Bx := by omega
        have ng3 : ¬ g7 = Bx := HgX.out
        have ng4 : ¬ Bx = g7 := fun e => HgX.out e.symm
        have j0 : (0 : Int) ≤ (pre.length : Int) := by omega
        have j1 : (pre.length : Int) < (pre.length : Int) + 1 := by omega
        have j2 : pre.length < pre.length + 1 := by omega
        clear hown7 hg7 hO7 hR7 hX7 hrd8 hat8 hv8 hfz hat7 hne7 hg70 hg71 am3 y0m3 y1m3 y2m3
        refine hK.out _ _ ?hbnoa6 (fun hHeld => ?rbnoa6)
        case hbnoa6 => ((try dsimp only); go_keep)
        clear hK Kq
        try simp only [Act.put, List.setIfInBounds_toArray, List.set_cons_zero, List.set_cons_succ]
        refine take_run (i := 7) (v := ?vbnoa7) rfl (by kernel_rfl) (by kernel_rfl) (by kernel_rfl) (fun _ _ _ h => h) (by rfl) ?ybnoa7 (by assumption) ?rbnoa7
        case ybnoa7 => (intro w hSw; (try dsimp only at hSw); go_simp; try with_reducible rfl)
        try simp only [Act.put, List.setIfInBounds_toArray, List.set_cons_zero, List.set_cons_succ]
        refine take_run (i := 9) (v := ?vbnoa9) rfl (by kernel_rfl) (by kernel_rfl) (by kernel_rfl) (fun _ _ _ h => h) (by rfl) ?ybnoa9 (by assumption) ?rbnoa9
        case ybnoa9 => (intro w hSw; (try dsimp only at hSw); go_simp; try with_reducible rfl)
        try simp only [Act.put, List.setIfInBounds_toArray, List.set_cons_zero, List.set_cons_succ]
        refine take_two (i := 8) (j := 10) rfl rfl (by kernel_rfl) (by rfl) (by rfl) (fun Kq hK => ?fstbnoa) (fun Kq hK => ?sndbnoa)
        case fstbnoa =>
          go_simp
          refine hK.out _ _ ?hbnoax8 (fun hHeld => ?rbnoax8)
          case hbnoax8 => ((try dsimp only); go_keep)
          clear hK Kq
          try simp only [Act.put, List.setIfInBounds_toArray, List.set_cons_zero, List.set_cons_succ]
          refine take_call (i := 10) rfl (by kernel_rfl) (by rfl) (fun Kq hK => ?_)
          go_simp
          refine hK.out _ _ ?hbnoax10 (fun hHeld => ?rbnoax10)
          case hbnoax10 => ((try dsimp only); go_keep)
          clear hK Kq
          try simp only [Act.put, List.setIfInBounds_toArray, List.set_cons_zero, List.set_cons_succ]
          refine wpAnyH_done (by kernel_rfl) ?_ _
          obtain ⟨hown7, hg7, hO7, hR7⟩ := H7.out
          have hg0 := HG.out.1
          have hrd : Dat.rd w7 (OwnT (fun _ => False) (w.heap.size + 4) (.slice (some ⟨g7, 0, none⟩) (pre.length + 1) c7) w7) (mirT xk) [.int .i64 (mirT xk).rule, .int .i64 (mirT xk).term, .slice A5 (mirT xk).kids.length d5] := rd_tree.2 ⟨_, rfl, HQ.out.1, HQ.out.2.1, Vl.of_slice rfl HQ.out.2.2.1 HQ.out.2.2.2 ((HCm3.out.kept (Kept.of_grown (X := fun b => (Value.slice Av pre.length cv).ownBlock = some b) hg7 (fun k hk => hk)) (fun b hb hk => by have q1 := (H2.out.block b hk).2; have q2 := hb.1; omega)).keep (fun _ _ _ => rfl) (fun b hb => ⟨.inr (by have q1 := hb.1; have q2 := H5.out; omega), fun e => HA7.out b hb.1 hb.2 e, by have q1 := hb.2; have q2 := hg7.size; omega⟩))⟩
          have hKE : KeepsOthers W w7 := (⟨HBm3.out.size, fun k o hk _ => (HBm3.out.block k (Array.getElem?_eq_some_iff.1 hk).1).trans hk⟩ : KeepsOthers W _).trans (KeepsOthers.of_grownBy hg7 (fun j o hj ho => HOw.out.isCells hj ho))
          have hKp : Kept (fun b => b = w.heap.size + 1 + 1 ∨ w.heap.size + 4 ≤ b) W w7 := (Kept.of_below _ HBm3.out).grown hg7 (fun k hk => .inl (.inr (H2.out.block k hk).1))
          have hBw : Below w.heap.size w w7 := bgrown (bthen H4.out HBm3.out H4.out.size) hg7 HOw.out (by omega) (by have q1 := HBm3.out.size; have q2 := H5.out; omega)
          have hsz7 : w.heap.size + 4 ≤ w7.heap.size := by have q1 := HBm3.out.size; have q2 := hg7.size; have q3 := H5.out; omega
          have hset := hown7.setLast hrd
          rw [HLn.out] at hset
          have hO9 := (((hO7.far (p := ⟨g7, pre.length * 3, none⟩) ng2 (.int .i64 (mirT xk).rule)).far (p := ⟨g7, pre.length * 3 + 1, none⟩) ng2 (.int .i64 (mirT xk).term)).far (p := ⟨g7, pre.length * 3 + 2, none⟩) ng2 (.slice A5 (mirT xk).kids.length d5)).set_ 2 (.slice (some ⟨g7, 0, none⟩) (pre.length + 1) c7)
          have hR9 := (((hR7.far (p := ⟨g7, pre.length * 3, none⟩) (by show w.heap.size + 1 ≠ g7; omega) (.int .i64 (mirT xk).rule)).far (p := ⟨g7, pre.length * 3 + 1, none⟩) (by show w.heap.size + 1 ≠ g7; omega) (.int .i64 (mirT xk).term)).far (p := ⟨g7, pre.length * 3 + 2, none⟩) (by show w.heap.size + 1 ≠ g7; omega) (.slice A5 (mirT xk).kids.length d5)).far (p := ⟨w.heap.size + 1 + 1, 2, none⟩) (by show w.heap.size + 1 ≠ w.heap.size + 1 + 1; omega) (.slice (some ⟨g7, 0, none⟩) (pre.length + 1) c7)
          refine ⟨((((hKE.trans (KeepsOthers.setCell _ _ _)).trans (KeepsOthers.setCell _ _ _)).trans (KeepsOthers.setCell _ _ _)).trans (KeepsOthers.setCell _ _ _)).from _, (((hKp.setCell (p := ⟨g7, pre.length * 3, none⟩) (.inl (.inr hg0)) _).setCell (p := ⟨g7, pre.length * 3 + 1, none⟩) (.inl (.inr hg0)) _).setCell (p := ⟨g7, pre.length * 3 + 2, none⟩) (.inl (.inr hg0)) _).setCell (p := ⟨w.heap.size + 1 + 1, 2, none⟩) (.inl (.inl rfl)) _, ⟨(.slice (some ⟨g7, 0, none⟩) (pre.length + 1) c7), hO9, ?_⟩, hR9, by simpa [World.setCell] using hsz7, (((hBw.setCell (p := ⟨g7, pre.length * 3, none⟩) (by show w.heap.size ≤ g7; omega) _).setCell (p := ⟨g7, pre.length * 3 + 1, none⟩) (by show w.heap.size ≤ g7; omega) _).setCell (p := ⟨g7, pre.length * 3 + 2, none⟩) (by show w.heap.size ≤ g7; omega) _).setCell (p := ⟨w.heap.size + 1 + 1, 2, none⟩) (by show w.heap.size ≤ w.heap.size + 1 + 1; omega) _⟩
          rw [mirP_snoc]
          exact hset.setCell (p := ⟨w.heap.size + 1 + 1, 2, none⟩) (fun e => ng (Option.some.inj e)) (fun h => h.elim id (fun h => by have q : w.heap.size + 4 ≤ w.heap.size + 1 + 1 := h; omega)) _
        case sndbnoa =>
          go_simp
          refine hK.out _ _ ?hbnoaz10 (fun hHeld => ?rbnoaz10)
          case hbnoaz10 => ((try dsimp only); go_keep)
          clear hK Kq
          try simp only [Act.put, List.setIfInBounds_toArray, List.set_cons_zero, List.set_cons_succ]
          refine take_call (i := 8) rfl (by kernel_rfl) (by rfl) (fun Kq hK => ?_)
          go_simp
          refine hK.out _ _ ?hbnoaz8 (fun hHeld => ?rbnoaz8)
          case hbnoaz8 => ((try dsimp only); go_keep)
          clear hK Kq
          try simp only [Act.put, List.setIfInBounds_toArray, List.set_cons_zero, List.set_cons_succ]
          refine wpAnyH_done (by kernel_rfl) ?_ _
          obtain ⟨hown7, hg7, hO7, hR7⟩ := H7.out
          have hg0 := HG.out.1
          have hrd : Dat.rd w7 (OwnT (fun _ => False) (w.heap.size + 4) (.slice (some ⟨g7, 0, none⟩) (pre.length + 1) c7) w7) (mirT xk) [.int .i64 (mirT xk).rule, .int .i64 (mirT xk).term, .slice A5 (mirT xk).kids.length d5] := rd_tree.2 ⟨_, rfl, HQ.out.1, HQ.out.2.1, Vl.of_slice rfl HQ.out.2.2.1 HQ.out.2.2.2 ((HCm3.out.kept (Kept.of_grown (X := fun b => (Value.slice Av pre.length cv).ownBlock = some b) hg7 (fun k hk => hk)) (fun b hb hk => by have q1 := (H2.out.block b hk).2; have q2 := hb.1; omega)).keep (fun _ _ _ => rfl) (fun b hb => ⟨.inr (by have q1 := hb.1; have q2 := H5.out; omega), fun e => HA7.out b hb.1 hb.2 e, by have q1 := hb.2; have q2 := hg7.size; omega⟩))⟩
          have hKE : KeepsOthers W w7 := (⟨HBm3.out.size, fun k o hk _ => (HBm3.out.block k (Array.getElem?_eq_some_iff.1 hk).1).trans hk⟩ : KeepsOthers W _).trans (KeepsOthers.of_grownBy hg7 (fun j o hj ho => HOw.out.isCells hj ho))
          have hKp : Kept (fun b => b = w.heap.size + 1 + 1 ∨ w.heap.size + 4 ≤ b) W w7 := (Kept.of_below _ HBm3.out).grown hg7 (fun k hk => .inl (.inr (H2.out.block k hk).1))
          have hBw : Below w.heap.size w w7 := bgrown (bthen H4.out HBm3.out H4.out.size) hg7 HOw.out (by omega) (by have q1 := HBm3.out.size; have q2 := H5.out; omega)
          have hsz7 : w.heap.size + 4 ≤ w7.heap.size := by have q1 := HBm3.out.size; have q2 := hg7.size; have q3 := H5.out; omega
          have hown8 := hown7.setCell (p := ⟨w.heap.size + 1 + 1, 2, none⟩) (fun e => ng (Option.some.inj e)) (fun h => h.elim id (fun h => by have q : w.heap.size + 4 ≤ w.heap.size + 1 + 1 := h; omega)) (.slice (some ⟨g7, 0, none⟩) (pre.length + 1) c7)
          have hk8 : Kept (fun b => b = w.heap.size + 1 + 1) w7 (w7.setCell ⟨w.heap.size + 1 + 1, 2, none⟩ (.slice (some ⟨g7, 0, none⟩) (pre.length + 1) c7)) := (Kept.refl (fun b => b = w.heap.size + 1 + 1) w7).setCell (p := ⟨w.heap.size + 1 + 1, 2, none⟩) (.inl rfl) _
          have hset := hown8.setLast (Dat.keep (fun p hp hlt => hk8.cell hlt (fun e => hp.1.elim id (fun h => by have q : w.heap.size + 4 ≤ p.block := h; omega))) (fun b hb => ⟨hb.1, hb.2.1, Nat.lt_of_lt_of_le hb.2.2 hk8.size⟩) hrd)
          rw [HLn.out] at hset
          have hO9 := (((hO7.set_ 2 (.slice (some ⟨g7, 0, none⟩) (pre.length + 1) c7)).far (p := ⟨g7, pre.length * 3, none⟩) ng2 (.int .i64 (mirT xk).rule)).far (p := ⟨g7, pre.length * 3 + 1, none⟩) ng2 (.int .i64 (mirT xk).term)).far (p := ⟨g7, pre.length * 3 + 2, none⟩) ng2 (.slice A5 (mirT xk).kids.length d5)
          have hR9 := (((hR7.far (p := ⟨w.heap.size + 1 + 1, 2, none⟩) (by show w.heap.size + 1 ≠ w.heap.size + 1 + 1; omega) (.slice (some ⟨g7, 0, none⟩) (pre.length + 1) c7)).far (p := ⟨g7, pre.length * 3, none⟩) (by show w.heap.size + 1 ≠ g7; omega) (.int .i64 (mirT xk).rule)).far (p := ⟨g7, pre.length * 3 + 1, none⟩) (by show w.heap.size + 1 ≠ g7; omega) (.int .i64 (mirT xk).term)).far (p := ⟨g7, pre.length * 3 + 2, none⟩) (by show w.heap.size + 1 ≠ g7; omega) (.slice A5 (mirT xk).kids.length d5)
          refine ⟨((((hKE.trans (KeepsOthers.setCell _ _ _)).trans (KeepsOthers.setCell _ _ _)).trans (KeepsOthers.setCell _ _ _)).trans (KeepsOthers.setCell _ _ _)).from _, (((hKp.setCell (p := ⟨w.heap.size + 1 + 1, 2, none⟩) (.inl (.inl rfl)) _).setCell (p := ⟨g7, pre.length * 3, none⟩) (.inl (.inr hg0)) _).setCell (p := ⟨g7, pre.length * 3 + 1, none⟩) (.inl (.inr hg0)) _).setCell (p := ⟨g7, pre.length * 3 + 2, none⟩) (.inl (.inr hg0)) _, ⟨(.slice (some ⟨g7, 0, none⟩) (pre.length + 1) c7), hO9, ?_⟩, hR9, by simpa [World.setCell] using hsz7, (((hBw.setCell (p := ⟨w.heap.size + 1 + 1, 2, none⟩) (by show w.heap.size ≤ w.heap.size + 1 + 1; omega) _).setCell (p := ⟨g7, pre.length * 3, none⟩) (by show w.heap.size ≤ g7; omega) _).setCell (p := ⟨g7, pre.length * 3 + 1, none⟩) (by show w.heap.size ≤ g7; omega) _).setCell (p := ⟨g7, pre.length * 3 + 2, none⟩) (by show w.heap.size ≤ g7; omega) _⟩
          rw [mirP_snoc]
          exact hset
      case twobn =>
        have HBm4 : Hid (Below W.heap.size W ((W.drew).alloc (.cells #[.int .i64 0, .int .i64 0, .slice none 0 0] 39))) := Lib.hid (HBd.out.alloc HBd.out.size _)
        have am4 : ((W.drew).alloc (.cells #[.int .i64 0, .int .i64 0, .slice none 0 0] 39)).cell? ⟨w.heap.size + 1 + 1, 2, none⟩ = some (.slice Av pre.length cv) := (HBm4.out.cell (p := ⟨w.heap.size + 1 + 1, 2, none⟩) zO).trans a2
        have y0m4 : ((W.drew).alloc (.cells #[.int .i64 0, .int .i64 0, .slice none 0 0] 39)).cell? ⟨Bx, 0, none⟩ = some (.int .i64 xk.rule) := (HBm4.out.cell (p := ⟨Bx, 0, none⟩) zX).trans x0
        have y1m4 : ((W.drew).alloc (.cells #[.int .i64 0, .int .i64 0, .slice none 0 0] 39)).cell? ⟨Bx, 1, none⟩ = some (.int .i64 xk.term) := (HBm4.out.cell (p := ⟨Bx, 1, none⟩) zX).trans x1
        have y2m4 : ((W.drew).alloc (.cells #[.int .i64 0, .int .i64 0, .slice none 0 0] 39)).cell? ⟨Bx, 1 + 1, none⟩ = some (.slice xA xk.kids.length xc) := (HBm4.out.cell (p := ⟨Bx, 1 + 1, none⟩) zX).trans x2
        have zm4 : w.heap.size + 1 + 1 < ((W.drew).alloc (.cells #[.int .i64 0, .int .i64 0, .slice none 0 0] 39)).heap.size := Nat.lt_of_lt_of_le zO HBm4.out.size
        have HLm4 : Hid (Blk' ((W.drew).alloc (.cells #[.int .i64 0, .int .i64 0, .slice none 0 0] 39)) (W.drew).heap.size 39 #[.int .i64 0, .int .i64 0, .slice none 0 0]) := Lib.hid (Blk'.new _ _ _)
        go_simp
        refine hK.out _ _ ?hbnt5 (fun hHeld => ?rbnt5)
        case hbnt5 => ((try dsimp only); go_keep)
        clear hK Kq
        try simp only [Act.put, List.setIfInBounds_toArray, List.set_cons_zero, List.set_cons_succ]
        clear ad y0d y1d y2d
        refine take_call (i := 3) rfl (by kernel_rfl) (by rfl) (fun Kq hK => ?_)
        go_simp
        go_at_call 22
        refine (IH.out xk hm S xA xc _ HXk.out.1 HXk.out.2.1 (HNd.out xk hm) HXk.out.2.2.1 HXk.out.2.2.2.1 (fun b hb => by have q1 := HS.out b hb; have q2 := HBm4.out.size; have q3 := H4.out.size; omega) (HXk.out.2.2.2.2.below (bthen H4.out HBm4.out H4.out.size))).mono ?_
        rintro e w5_5 ⟨A5, d5, rfl, q1, q2, q3, q4, q5, hb5⟩
        have HQ := Lib.hid (And.intro q1 (And.intro q2 (And.intro q3 q4)))
        have hbn := bthen HBm4.out hb5 HBm4.out.size
        have HBm5 : Hid (Below W.heap.size W (w5_5)) := Lib.hid (hbn)
        have am5 : (w5_5).cell? ⟨w.heap.size + 1 + 1, 2, none⟩ = some (.slice Av pre.length cv) := (HBm5.out.cell (p := ⟨w.heap.size + 1 + 1, 2, none⟩) zO).trans a2
        have y0m5 : (w5_5).cell? ⟨Bx, 0, none⟩ = some (.int .i64 xk.rule) := (HBm5.out.cell (p := ⟨Bx, 0, none⟩) zX).trans x0
        have y1m5 : (w5_5).cell? ⟨Bx, 1, none⟩ = some (.int .i64 xk.term) := (HBm5.out.cell (p := ⟨Bx, 1, none⟩) zX).trans x1
        have y2m5 : (w5_5).cell? ⟨Bx, 1 + 1, none⟩ = some (.slice xA xk.kids.length xc) := (HBm5.out.cell (p := ⟨Bx, 1 + 1, none⟩) zX).trans x2
        have zm5 : w.heap.size + 1 + 1 < (w5_5).heap.size := Nat.lt_of_lt_of_le zO HBm5.out.size
        have HCm5 : Hid (Els w5_5 (fun b => W.heap.size ≤ b ∧ b < w5_5.heap.size) (mirT xk).kids A5) := Lib.hid (q5.keep (fun _ _ _ => rfl) (fun b hb => ⟨by have q6 := hb.1; have q7 := HBm4.out.size; omega, hb.2⟩))
        have HLm5 := Lib.hid (HLm4.out.below hb5 HLm4.out.lt)
        clear q1 q2 q3 q4 q5 hb5 hbn
        refine hK.out _ _ ?hbnta3 (fun hHeld => ?rbnta3)
        case hbnta3 => ((try dsimp only); go_keep)
        clear hK Kq
        try simp only [Act.put, List.setIfInBounds_toArray, List.set_cons_zero, List.set_cons_succ]
        clear am4 y0m4 y1m4 y2m4
        refine take_call (i := 6) rfl (by kernel_rfl) (by rfl) (fun Kq hK => ?_)
        have HOw := Lib.hid (H2.out.below HBm5.out (Nat.le_refl _))
        have HAt : Hid (At (w5_5) ((W.drew).heap.size) 0 [.int .i64 0, .int .i64 0, .slice none 0 0]) := Lib.hid (fun j u hu => by rw [Nat.zero_add, HLm5.out.cell]; simpa using hu)
        refine wp_own1 _ _ _ elemTree rfl rfl HOw.out zeroT [.int .i64 0, .int .i64 0, .slice none 0 0] rfl HAt.out (rd_tree.2 ⟨_, rfl, by show I64 0; unfold I64; omega, by show I64 0; unfold I64; omega, Vl.nil⟩) (by rw [HLn.out]; have q1 := HLm.out; omega) (by rw [HLn.out]; have q1 := HLm.out; omega) (by have q1 := HBm5.out.size; have q2 := H5.out; omega) ?_
        intro v7 w7 hown7 hg7 hat7
        obtain ⟨A7, c7, hv7, hc71, hc72, hor⟩ := hown7.form
        rw [snoc_len, HLn.out] at hv7
        obtain ⟨g7, eA7, hg70, hg71⟩ := hor.resolve_left (by simp)
        subst eA7
        subst hv7
        have HG := Lib.hid (And.intro hg70 hg71)
        have hne7 : ∀ k, k < w.heap.size + 4 ∨ k = Bx → some k ≠ (Value.slice Av pre.length cv).ownBlock := fun k hk e => by have q1 := (H2.out.block k e.symm).1; rcases hk with hk | hk; omega; exact HNe.out (by rw [← hk]; exact e.symm)
        have hO7 := (H1.out.below HBm5.out zO).grown hg7 (hne7 _ (.inl (by omega)))
        have hR7 := (H3.out.below HBm5.out (by omega)).grown hg7 (hne7 _ (.inl (by omega)))
        have hX7 := (HX.out.below HBm5.out zX).grown hg7 (hne7 _ (.inr rfl))
        have H7 := Lib.hid (And.intro hown7 (And.intro hg7 (And.intro hO7 hR7)))
        have m3 : w7.cell? ⟨w.heap.size + 1 + 1, 2, none⟩ = some (.slice Av pre.length cv) := hO7.cell 2
        have f3 := hO7.frozen 2
        have u0 : w7.cell? ⟨Bx, 0, none⟩ = some (.int .i64 xk.rule) := hX7.cell 0
        have u1 : w7.cell? ⟨Bx, 1, none⟩ = some (.int .i64 xk.term) := hX7.cell 1
        have u2 : w7.cell? ⟨Bx, 1 + 1, none⟩ = some (.slice xA xk.kids.length xc) := hX7.cell 2
        have zO7 : w.heap.size + 1 + 1 < w7.heap.size := hO7.lt
        have zX7 : Bx < w7.heap.size := hX7.lt
        obtain ⟨g8, c8, cs8, e8, _, _, hrd8, hat8⟩ := hown7.at_ (k := pre.length) (x := zeroT) (by rw [← HLn.out]; simp)
        injection e8 with e8 e81 e82
        clear e81 e82
        injection e8 with e8
        injection e8 with e8 e81 e82
        clear e81 e82
        subst e8
        obtain ⟨v8, rfl, _, _, hv8⟩ := rd_tree.1 hrd8
        have k0 : w7.cell? ⟨g7, pre.length * 3, none⟩ = some (.int .i64 0) := by have q := hat8 0 _ rfl; exact q
        have k1 : w7.cell? ⟨g7, pre.length * 3 + 1, none⟩ = some (.int .i64 0) := by have q := hat8 1 _ rfl; exact q
        have k2 : w7.cell? ⟨g7, pre.length * 3 + 1 + 1, none⟩ = some v8 := by have q := hat8 2 _ rfl; exact q
        have hfz := hown7.frozenAt
        have fk0 := hfz (pre.length * 3)
        have fk1 := hfz (pre.length * 3 + 1)
        have fk2 := hfz (pre.length * 3 + 1 + 1)
        have ng : ¬ g7 = w.heap.size + 1 + 1 := by omega
        have ng2 : ¬ w.heap.size + 1 + 1 = g7 := by omega
        have HA7 : Hid (∀ b, W.heap.size ≤ b → b < (w5_5).heap.size → (Value.slice (some ⟨g7, 0, none⟩) (pre.length + 1) c7).ownBlock ≠ some b) := Lib.hid (fun b q1 q2 e => by rcases hat7 with q | q; (rw [e] at q; have q3 := (H2.out.block b q.symm).2; omega); (rw [e] at q; have q3 : b = (w5_5).heap.size := Option.some.inj q; omega))
        have HgX : Hid (g7 ≠ Bx) := Lib.hid (by rcases hat7 with q | q; (intro e; rw [e] at q; exact HNe.out q.symm); (have q2 : g7 = (w5_5).heap.size := Option.some.inj q; have q1 := HBm5.out.size; omega))
        have ng5 : ¬ Bx = w.heap.size + 1 + 1 := by omega
        have ng6 : ¬ w.heap.size + 1 + 1 = Bx := by omega
        have ng3 : ¬ g7 = Bx := HgX.out
        have ng4 : ¬ Bx = g7 := fun e => HgX.out e.symm
        have j0 : (0 : Int) ≤ (pre.length : Int) := by omega
        have j1 : (pre.length : Int) < (pre.length : Int) + 1 := by omega
        have j2 : pre.length < pre.length + 1 := by omega
        clear hown7 hg7 hO7 hR7 hX7 hrd8 hat8 hv8 hfz hat7 hne7 hg70 hg71 am5 y0m5 y1m5 y2m5
        refine hK.out _ _ ?hbnta6 (fun hHeld => ?rbnta6)
        case hbnta6 => ((try dsimp only); go_keep)
        clear hK Kq
        try simp only [Act.put, List.setIfInBounds_toArray, List.set_cons_zero, List.set_cons_succ]
        refine take_run (i := 7) (v := ?vbnta7) rfl (by kernel_rfl) (by kernel_rfl) (by kernel_rfl) (fun _ _ _ h => h) (by rfl) ?ybnta7 (by assumption) ?rbnta7
        case ybnta7 => (intro w hSw; (try dsimp only at hSw); go_simp; try with_reducible rfl)
        try simp only [Act.put, List.setIfInBounds_toArray, List.set_cons_zero, List.set_cons_succ]
        refine take_run (i := 9) (v := ?vbnta9) rfl (by kernel_rfl) (by kernel_rfl) (by kernel_rfl) (fun _ _ _ h => h) (by rfl) ?ybnta9 (by assumption) ?rbnta9
        case ybnta9 => (intro w hSw; (try dsimp only at hSw); go_simp; try with_reducible rfl)
        try simp only [Act.put, List.setIfInBounds_toArray, List.set_cons_zero, List.set_cons_succ]
        refine take_two (i := 8) (j := 10) rfl rfl (by kernel_rfl) (by rfl) (by rfl) (fun Kq hK => ?fstbnta) (fun Kq hK => ?sndbnta)
        case fstbnta =>
          go_simp
          refine hK.out _ _ ?hbntax8 (fun hHeld => ?rbntax8)
          case hbntax8 => ((try dsimp only); go_keep)
          clear hK Kq
          try simp only [Act.put, List.setIfInBounds_toArray, List.set_cons_zero, List.set_cons_succ]
          refine take_call (i := 10) rfl (by kernel_rfl) (by rfl) (fun Kq hK => ?_)
          go_simp
          refine hK.out _ _ ?hbntax10 (fun hHeld => ?rbntax10)
          case hbntax10 => ((try dsimp only); go_keep)
          clear hK Kq
          try simp only [Act.put, List.setIfInBounds_toArray, List.set_cons_zero, List.set_cons_succ]
          refine wpAnyH_done (by kernel_rfl) ?_ _
          obtain ⟨hown7, hg7, hO7, hR7⟩ := H7.out
          have hg0 := HG.out.1
          have hrd : Dat.rd w7 (OwnT (fun _ => False) (w.heap.size + 4) (.slice (some ⟨g7, 0, none⟩) (pre.length + 1) c7) w7) (mirT xk) [.int .i64 (mirT xk).rule, .int .i64 (mirT xk).term, .slice A5 (mirT xk).kids.length d5] := rd_tree.2 ⟨_, rfl, HQ.out.1, HQ.out.2.1, Vl.of_slice rfl HQ.out.2.2.1 HQ.out.2.2.2 ((HCm5.out.kept (Kept.of_grown (X := fun b => (Value.slice Av pre.length cv).ownBlock = some b) hg7 (fun k hk => hk)) (fun b hb hk => by have q1 := (H2.out.block b hk).2; have q2 := hb.1; omega)).keep (fun _ _ _ => rfl) (fun b hb => ⟨.inr (by have q1 := hb.1; have q2 := H5.out; omega), fun e => HA7.out b hb.1 hb.2 e, by have q1 := hb.2; have q2 := hg7.size; omega⟩))⟩
          have hKE : KeepsOthers W w7 := (⟨HBm5.out.size, fun k o hk _ => (HBm5.out.block k (Array.getElem?_eq_some_iff.1 hk).1).trans hk⟩ : KeepsOthers W _).trans (KeepsOthers.of_grownBy hg7 (fun j o hj ho => HOw.out.isCells hj ho))
          have hKp : Kept (fun b => b = w.heap.size + 1 + 1 ∨ w.heap.size + 4 ≤ b) W w7 := (Kept.of_below _ HBm5.out).grown hg7 (fun k hk => .inl (.inr (H2.out.block k hk).1))
          have hBw : Below w.heap.size w w7 := bgrown (bthen H4.out HBm5.out H4.out.size) hg7 HOw.out (by omega) (by have q1 := HBm5.out.size; have q2 := H5.out; omega)
          have hsz7 : w.heap.size + 4 ≤ w7.heap.size := by have q1 := HBm5.out.size; have q2 := hg7.size; have q3 := H5.out; omega
          have hset := hown7.setLast hrd
          rw [HLn.out] at hset
          have hO9 := (((hO7.far (p := ⟨g7, pre.length * 3, none⟩) ng2 (.int .i64 (mirT xk).rule)).far (p := ⟨g7, pre.length * 3 + 1, none⟩) ng2 (.int .i64 (mirT xk).term)).far (p := ⟨g7, pre.length * 3 + 2, none⟩) ng2 (.slice A5 (mirT xk).kids.length d5)).set_ 2 (.slice (some ⟨g7, 0, none⟩) (pre.length + 1) c7)
          have hR9 := (((hR7.far (p := ⟨g7, pre.length * 3, none⟩) (by show w.heap.size + 1 ≠ g7; omega) (.int .i64 (mirT xk).rule)).far (p := ⟨g7, pre.length * 3 + 1, none⟩) (by show w.heap.size + 1 ≠ g7; omega) (.int .i64 (mirT xk).term)).far (p := ⟨g7, pre.length * 3 + 2, none⟩) (by show w.heap.size + 1 ≠ g7; omega) (.slice A5 (mirT xk).kids.length d5)).far (p := ⟨w.heap.size + 1 + 1, 2, none⟩) (by show w.heap.size + 1 ≠ w.heap.size + 1 + 1; omega) (.slice (some ⟨g7, 0, none⟩) (pre.length + 1) c7)
          refine ⟨((((hKE.trans (KeepsOthers.setCell _ _ _)).trans (KeepsOthers.setCell _ _ _)).trans (KeepsOthers.setCell _ _ _)).trans (KeepsOthers.setCell _ _ _)).from _, (((hKp.setCell (p := ⟨g7, pre.length * 3, none⟩) (.inl (.inr hg0)) _).setCell (p := ⟨g7, pre.length * 3 + 1, none⟩) (.inl (.inr hg0)) _).setCell (p := ⟨g7, pre.length * 3 + 2, none⟩) (.inl (.inr hg0)) _).setCell (p := ⟨w.heap.size + 1 + 1, 2, none⟩) (.inl (.inl rfl)) _, ⟨(.slice (some ⟨g7, 0, none⟩) (pre.length + 1) c7), hO9, ?_⟩, hR9, by simpa [World.setCell] using hsz7, (((hBw.setCell (p := ⟨g7, pre.length * 3, none⟩) (by show w.heap.size ≤ g7; omega) _).setCell (p := ⟨g7, pre.length * 3 + 1, none⟩) (by show w.heap.size ≤ g7; omega) _).setCell (p := ⟨g7, pre.length * 3 + 2, none⟩) (by show w.heap.size ≤ g7; omega) _).setCell (p := ⟨w.heap.size + 1 + 1, 2, none⟩) (by show w.heap.size ≤ w.heap.size + 1 + 1; omega) _⟩
          rw [mirP_snoc]
          exact hset.setCell (p := ⟨w.heap.size + 1 + 1, 2, none⟩) (fun e => ng (Option.some.inj e)) (fun h => h.elim id (fun h => by have q : w.heap.size + 4 ≤ w.heap.size + 1 + 1 := h; omega)) _
        case sndbnta =>
          go_simp
          refine hK.out _ _ ?hbntaz10 (fun hHeld => ?rbntaz10)
          case hbntaz10 => ((try dsimp only); go_keep)
          clear hK Kq
          try simp only [Act.put, List.setIfInBounds_toArray, List.set_cons_zero, List.set_cons_succ]
          refine take_call (i := 8) rfl (by kernel_rfl) (by rfl) (fun Kq hK => ?_)
          go_simp
          refine hK.out _ _ ?hbntaz8 (fun hHeld => ?rbntaz8)
          case hbntaz8 => ((try dsimp only); go_keep)
          clear hK Kq
          try simp only [Act.put, List.setIfInBounds_toArray, List.set_cons_zero, List.set_cons_succ]
          refine wpAnyH_done (by kernel_rfl) ?_ _
          obtain ⟨hown7, hg7, hO7, hR7⟩ := H7.out
          have hg0 := HG.out.1
          have hrd : Dat.rd w7 (OwnT (fun _ => False) (w.heap.size + 4) (.slice (some ⟨g7, 0, none⟩) (pre.length + 1) c7) w7) (mirT xk) [.int .i64 (mirT xk).rule, .int .i64 (mirT xk).term, .slice A5 (mirT xk).kids.length d5] := rd_tree.2 ⟨_, rfl, HQ.out.1, HQ.out.2.1, Vl.of_slice rfl HQ.out.2.2.1 HQ.out.2.2.2 ((HCm5.out.kept (Kept.of_grown (X := fun b => (Value.slice Av pre.length cv).ownBlock = some b) hg7 (fun k hk => hk)) (fun b hb hk => by have q1 := (H2.out.block b hk).2; have q2 := hb.1; omega)).keep (fun _ _ _ => rfl) (fun b hb => ⟨.inr (by have q1 := hb.1; have q2 := H5.out; omega), fun e => HA7.out b hb.1 hb.2 e, by have q1 := hb.2; have q2 := hg7.size; omega⟩))⟩
          have hKE : KeepsOthers W w7 := (⟨HBm5.out.size, fun k o hk _ => (HBm5.out.block k (Array.getElem?_eq_some_iff.1 hk).1).trans hk⟩ : KeepsOthers W _).trans (KeepsOthers.of_grownBy hg7 (fun j o hj ho => HOw.out.isCells hj ho))
          have hKp : Kept (fun b => b = w.heap.size + 1 + 1 ∨ w.heap.size + 4 ≤ b) W w7 := (Kept.of_below _ HBm5.out).grown hg7 (fun k hk => .inl (.inr (H2.out.block k hk).1))
          have hBw : Below w.heap.size w w7 := bgrown (bthen H4.out HBm5.out H4.out.size) hg7 HOw.out (by omega) (by have q1 := HBm5.out.size; have q2 := H5.out; omega)
          have hsz7 : w.heap.size + 4 ≤ w7.heap.size := by have q1 := HBm5.out.size; have q2 := hg7.size; have q3 := H5.out; omega
          have hown8 := hown7.setCell (p := ⟨w.heap.size + 1 + 1, 2, none⟩) (fun e => ng (Option.some.inj e)) (fun h => h.elim id (fun h => by have q : w.heap.size + 4 ≤ w.heap.size + 1 + 1 := h; omega)) (.slice (some ⟨g7, 0, none⟩) (pre.length + 1) c7)
          have hk8 : Kept (fun b => b = w.heap.size + 1 + 1) w7 (w7.setCell ⟨w.heap.size + 1 + 1, 2, none⟩ (.slice (some ⟨g7, 0, none⟩) (pre.length + 1) c7)) := (Kept.refl (fun b => b = w.heap.size + 1 + 1) w7).setCell (p := ⟨w.heap.size + 1 + 1, 2, none⟩) (.inl rfl) _
          have hset := hown8.setLast (Dat.keep (fun p hp hlt => hk8.cell hlt (fun e => hp.1.elim id (fun h => by have q : w.heap.size + 4 ≤ p.block := h; omega))) (fun b hb => ⟨hb.1, hb.2.1, Nat.lt_of_lt_of_le hb.2.2 hk8.size⟩) hrd)
          rw [HLn.out] at hset
          have hO9 := (((hO7.set_ 2 (.slice (some ⟨g7, 0, none⟩) (pre.length + 1) c7)).far (p := ⟨g7, pre.length * 3, none⟩) ng2 (.int .i64 (mirT xk).rule)).far (p := ⟨g7, pre.length * 3 + 1, none⟩) ng2 (.int .i64 (mirT xk).term)).far (p := ⟨g7, pre.length * 3 + 2, none⟩) ng2 (.slice A5 (mirT xk).kids.length d5)
          have hR9 := (((hR7.far (p := ⟨w.heap.size + 1 + 1, 2, none⟩) (by show w.heap.size + 1 ≠ w.heap.size + 1 + 1; omega) (.slice (some ⟨g7, 0, none⟩) (pre.length + 1) c7)).far (p := ⟨g7, pre.length * 3, none⟩) (by show w.heap.size + 1 ≠ g7; omega) (.int .i64 (mirT xk).rule)).far (p := ⟨g7, pre.length * 3 + 1, none⟩) (by show w.heap.size + 1 ≠ g7; omega) (.int .i64 (mirT xk).term)).far (p := ⟨g7, pre.length * 3 + 2, none⟩) (by show w.heap.size + 1 ≠ g7; omega) (.slice A5 (mirT xk).kids.length d5)
          refine ⟨((((hKE.trans (KeepsOthers.setCell _ _ _)).trans (KeepsOthers.setCell _ _ _)).trans (KeepsOthers.setCell _ _ _)).trans (KeepsOthers.setCell _ _ _)).from _, (((hKp.setCell (p := ⟨w.heap.size + 1 + 1, 2, none⟩) (.inl (.inl rfl)) _).setCell (p := ⟨g7, pre.length * 3, none⟩) (.inl (.inr hg0)) _).setCell (p := ⟨g7, pre.length * 3 + 1, none⟩) (.inl (.inr hg0)) _).setCell (p := ⟨g7, pre.length * 3 + 2, none⟩) (.inl (.inr hg0)) _, ⟨(.slice (some ⟨g7, 0, none⟩) (pre.length + 1) c7), hO9, ?_⟩, hR9, by simpa [World.setCell] using hsz7, (((hBw.setCell (p := ⟨w.heap.size + 1 + 1, 2, none⟩) (by show w.heap.size ≤ w.heap.size + 1 + 1; omega) _).setCell (p := ⟨g7, pre.length * 3, none⟩) (by show w.heap.size ≤ g7; omega) _).setCell (p := ⟨g7, pre.length * 3 + 1, none⟩) (by show w.heap.size ≤ g7; omega) _).setCell (p := ⟨g7, pre.length * 3 + 2, none⟩) (by show w.heap.size ≤ g7; omega) _⟩
          rw [mirP_snoc]
          exact hset
    case twob =>
      go_simp
      go_at_call 22
      refine (IH.out xk hm S xA xc _ HXk.out.1 HXk.out.2.1 (HNd.out xk hm) HXk.out.2.2.1 HXk.out.2.2.2.1 (fun b hb => by have q1 := HS.out b hb; have q2 := HBd.out.size; have q3 := H4.out.size; omega) (HXk.out.2.2.2.2.below (bthen H4.out HBd.out H4.out.size))).mono ?_
      rintro e w5_6 ⟨A5, d5, rfl, q1, q2, q3, q4, q5, hb5⟩
      have HQ := Lib.hid (And.intro q1 (And.intro q2 (And.intro q3 q4)))
      have hbn := bthen HBd.out hb5 HBd.out.size
      have HBm6 : Hid (Below W.heap.size W (w5_6)) := Lib.hid (hbn)
      have am6 : (w5_6).cell? ⟨w.heap.size + 1 + 1, 2, none⟩ = some (.slice Av pre.length cv) := (HBm6.out.cell (p := ⟨w.heap.size + 1 + 1, 2, none⟩) zO).trans a2
      have y0m6 : (w5_6).cell? ⟨Bx, 0, none⟩ = some (.int .i64 xk.rule) := (HBm6.out.cell (p := ⟨Bx, 0, none⟩) zX).trans x0
      have y1m6 : (w5_6).cell? ⟨Bx, 1, none⟩ = some (.int .i64 xk.term) := (HBm6.out.cell (p := ⟨Bx, 1, none⟩) zX).trans x1
      have y2m6 : (w5_6).cell? ⟨Bx, 1 + 1, none⟩ = some (.slice xA xk.kids.length xc) := (HBm6.out.cell (p := ⟨Bx, 1 + 1, none⟩) zX).trans x2
      have zm6 : w.heap.size + 1 + 1 < (w5_6).heap.size := Nat.lt_of_lt_of_le zO HBm6.out.size
      have HCm6 : Hid (Els w5_6 (fun b => W.heap.size ≤ b ∧ b < w5_6.heap.size) (mirT xk).kids A5) := Lib.hid (q5.keep (fun _ _ _ => rfl) (fun b hb => ⟨by have q6 := hb.1; have q7 := HBd.out.size; omega, hb.2⟩))
      clear q1 q2 q3 q4 q5 hb5 hbn
      refine hK.out _ _ ?hbw3 (fun hHeld => ?rbw3)
      case hbw3 => ((try dsimp only); go_keep)
      clear hK Kq
      try simp only [Act.put, List.setIfInBounds_toArray, List.set_cons_zero, List.set_cons_succ]
      clear ad y0d y1d y2d
      refine take_two (i := 1) (j := 5) rfl rfl (by kernel_rfl) (by rfl) (by rfl) (fun Kq hK => ?onebw) (fun Kq hK => ?twobw)
      case onebw =>
        go_simp
        refine hK.out _ _ ?hbwo1 (fun hHeld => ?rbwo1)
        case hbwo1 => ((try dsimp only); go_keep)
        clear hK Kq
        try simp only [Act.put, List.setIfInBounds_toArray, List.set_cons_zero, List.set_cons_succ]
        refine take_run (i := 4) (v := ?vbwo4) rfl (by kernel_rfl) (by kernel_rfl) (by kernel_rfl) (fun _ _ _ h => h) (by rfl) ?ybwo4 (by assumption) ?rbwo4
        case ybwo4 => (intro w hSw; (try dsimp only at hSw); go_simp; try with_reducible rfl)
        try simp only [Act.put, List.setIfInBounds_toArray, List.set_cons_zero, List.set_cons_succ]
        refine take_call (i := 5) rfl (by kernel_rfl) (by rfl) (fun Kq hK => ?_)
        have HBm8 : Hid (Below W.heap.size W ((w5_6).alloc (.cells #[.int .i64 0, .int .i64 0, .slice none 0 0] 39))) := Lib.hid (HBm6.out.alloc HBm6.out.size _)
        have am8 : ((w5_6).alloc (.cells #[.int .i64 0, .int .i64 0, .slice none 0 0] 39)).cell? ⟨w.heap.size + 1 + 1, 2, none⟩ = some (.slice Av pre.length cv) := (HBm8.out.cell (p := ⟨w.heap.size + 1 + 1, 2, none⟩) zO).trans a2
        have y0m8 : ((w5_6).alloc (.cells #[.int .i64 0, .int .i64 0, .slice none 0 0] 39)).cell? ⟨Bx, 0, none⟩ = some (.int .i64 xk.rule) := (HBm8.out.cell (p := ⟨Bx, 0, none⟩) zX).trans x0
        have y1m8 : ((w5_6).alloc (.cells #[.int .i64 0, .int .i64 0, .slice none 0 0] 39)).cell? ⟨Bx, 1, none⟩ = some (.int .i64 xk.term) := (HBm8.out.cell (p := ⟨Bx, 1, none⟩) zX).trans x1
        have y2m8 : ((w5_6).alloc (.cells #[.int .i64 0, .int .i64 0, .slice none 0 0] 39)).cell? ⟨Bx, 1 + 1, none⟩ = some (.slice xA xk.kids.length xc) := (HBm8.out.cell (p := ⟨Bx, 1 + 1, none⟩) zX).trans x2
        have zm8 : w.heap.size + 1 + 1 < ((w5_6).alloc (.cells #[.int .i64 0, .int .i64 0, .slice none 0 0] 39)).heap.size := Nat.lt_of_lt_of_le zO HBm8.out.size
        have HLm8 : Hid (Blk' ((w5_6).alloc (.cells #[.int .i64 0, .int .i64 0, .slice none 0 0] 39)) (w5_6).heap.size 39 #[.int .i64 0, .int .i64 0, .slice none 0 0]) := Lib.hid (Blk'.new _ _ _)
        have HCm8 : Hid (Els ((w5_6).alloc (.cells #[.int .i64 0, .int .i64 0, .slice none 0 0] 39)) (fun b => W.heap.size ≤ b ∧ b < ((w5_6).alloc (.cells #[.int .i64 0, .int .i64 0, .slice none 0 0] 39)).heap.size) (mirT xk).kids A5) := Lib.hid ((HCm6.out.below ((Below.refl _ _).alloc (Nat.le_refl _) _)).keep (fun _ _ _ => rfl) (fun b hb => ⟨hb.1, by have q6 := hb.2; simp; omega⟩))
        go_simp
        refine hK.out _ _ ?hbwoa5 (fun hHeld => ?rbwoa5)
        case hbwoa5 => ((try dsimp only); go_keep)
        clear hK Kq
        try simp only [Act.put, List.setIfInBounds_toArray, List.set_cons_zero, List.set_cons_succ]
        clear am6 y0m6 y1m6 y2m6
        refine take_call (i := 6) rfl (by kernel_rfl) (by rfl) (fun Kq hK => ?_)
        have HOw := Lib.hid (H2.out.below HBm8.out (Nat.le_refl _))
        have HAt : Hid (At ((w5_6).alloc (.cells #[.int .i64 0, .int .i64 0, .slice none 0 0] 39)) ((w5_6).heap.size) 0 [.int .i64 0, .int .i64 0, .slice none 0 0]) := Lib.hid (fun j u hu => by rw [Nat.zero_add, HLm8.out.cell]; simpa using hu)
        refine wp_own1 _ _ _ elemTree rfl rfl HOw.out zeroT [.int .i64 0, .int .i64 0, .slice none 0 0] rfl HAt.out (rd_tree.2 ⟨_, rfl, by show I64 0; unfold I64; omega, by show I64 0; unfold I64; omega, Vl.nil⟩) (by rw [HLn.out]; have q1 := HLm.out; omega) (by rw [HLn.out]; have q1 := HLm.out; omega) (by have q1 := HBm8.out.size; have q2 := H5.out; omega) ?_
        intro v7 w7 hown7 hg7 hat7
        obtain ⟨A7, c7, hv7, hc71, hc72, hor⟩ := hown7.form
        rw [snoc_len, HLn.out] at hv7
        obtain ⟨g7, eA7, hg70, hg71⟩ := hor.resolve_left (by simp)
        subst eA7
        subst hv7
        have HG := Lib.hid (And.intro hg70 hg71)
        have hne7 : ∀ k, k < w.heap.size + 4 ∨ k = Bx → some k ≠ (Value.slice Av pre.length cv).ownBlock := fun k hk e => by have q1 := (H2.out.block k e.symm).1; rcases hk with hk | hk; omega; exact HNe.out (by rw [← hk]; exact e.symm)
        have hO7 := (H1.out.below HBm8.out zO).grown hg7 (hne7 _ (.inl (by omega)))
        have hR7 := (H3.out.below HBm8.out (by omega)).grown hg7 (hne7 _ (.inl (by omega)))
        have hX7 := (HX.out.below HBm8.out zX).grown hg7 (hne7 _ (.inr rfl))
        have H7 := Lib.hid (And.intro hown7 (And.intro hg7 (And.intro hO7 hR7)))
        have m3 : w7.cell? ⟨w.heap.size + 1 + 1, 2, none⟩ = some (.slice Av pre.length cv) := hO7.cell 2
        have f3 := hO7.frozen 2
        have u0 : w7.cell? ⟨Bx, 0, none⟩ = some (.int .i64 xk.rule) := hX7.cell 0
        have u1 : w7.cell? ⟨Bx, 1, none⟩ = some (.int .i64 xk.term) := hX7.cell 1
        have u2 : w7.cell? ⟨Bx, 1 + 1, none⟩ = some (.slice xA xk.kids.length xc) := hX7.cell 2
        have zO7 : w.heap.size + 1 + 1 < w7.heap.size := hO7.lt
        have zX7 : Bx < w7.heap.size := hX7.lt
        obtain ⟨g8, c8, cs8, e8, _, _, hrd8, hat8⟩ := hown7.at_ (k := pre.length) (x := zeroT) (by rw [← HLn.out]; simp)
        injection e8 with e8 e81 e82
        clear e81 e82
        injection e8 with e8
        injection e8 with e8 e81 e82
        clear e81 e82
        subst e8
        obtain ⟨v8, rfl, _, _, hv8⟩ := rd_tree.1 hrd8
        have k0 : w7.cell? ⟨g7, pre.length * 3, none⟩ = some (.int .i64 0) := by have q := hat8 0 _ rfl; exact q
        have k1 : w7.cell? ⟨g7, pre.length * 3 + 1, none⟩ = some (.int .i64 0) := by have q := hat8 1 _ rfl; exact q
        have k2 : w7.cell? ⟨g7, pre.length * 3 + 1 + 1, none⟩ = some v8 := by have q := hat8 2 _ rfl; exact q
        have hfz := hown7.frozenAt
        have fk0 := hfz (pre.length * 3)
        have fk1 := hfz (pre.length * 3 + 1)
        have fk2 := hfz (pre.length * 3 + 1 + 1)
        have ng : ¬ g7 = w.heap.size + 1 + 1 := by omega
        have ng2 : ¬ w.heap.size + 1 + 1 = g7 := by omega
        have HA7 : Hid (∀ b, W.heap.size ≤ b → b < ((w5_6).alloc (.cells #[.int .i64 0, .int .i64 0, .slice none 0 0] 39)).heap.size → (Value.slice (some ⟨g7, 0, none⟩) (pre.length + 1) c7).ownBlock ≠ some b) := Lib.hid (fun b q1 q2 e => by rcases hat7 with q | q; (rw [e] at q; have q3 := (H2.out.block b q.symm).2; omega); (rw [e] at q; have q3 : b = ((w5_6).alloc (.cells #[.int .i64 0, .int .i64 0, .slice none 0 0] 39)).heap.size := Option.some.inj q; omega))
        have HgX : Hid (g7 ≠ Bx) := Lib.hid (by rcases hat7 with q | q; (intro e; rw [e] at q; exact HNe.out q.symm); (have q2 : g7 = ((w5_6).alloc (.cells #[.int .i64 0, .int .i64 0, .slice none 0 0] 39)).heap.size := Option.some.inj q; have q1 := HBm8.out.size; omega))
        have ng5 : ¬ Bx = w.heap.size + 1 + 1 := by omega
        have ng6 : ¬ w.heap.size + 1 + 1 = Bx := by omega
        have ng3 : ¬ g7 = Bx := HgX.out
        have ng4 : ¬ Bx = g7 := fun e => HgX.out e.symm
        have j0 : (0 : Int) ≤ (pre.length : Int) := by omega
        have j1 : (pre.length : Int) < (pre.length : Int) + 1 := by omega
        have j2 : pre.length < pre.length + 1 := by omega
        clear hown7 hg7 hO7 hR7 hX7 hrd8 hat8 hv8 hfz hat7 hne7 hg70 hg71 am8 y0m8 y1m8 y2m8
        refine hK.out _ _ ?hbwoa6 (fun hHeld => ?rbwoa6)
        case hbwoa6 => ((try dsimp only); go_keep)
        clear hK Kq
        try simp only [Act.put, List.setIfInBounds_toArray, List.set_cons_zero, List.set_cons_succ]
        refine take_run (i := 7) (v := ?vbwoa7) rfl (by kernel_rfl) (by kernel_rfl) (by kernel_rfl) (fun _ _ _ h => h) (by rfl) ?ybwoa7 (by assumption) ?rbwoa7
        case ybwoa7 => (intro w hSw; (try dsimp only at hSw); go_simp; try with_reducible rfl)
        try simp only [Act.put, List.setIfInBounds_toArray, List.set_cons_zero, List.set_cons_succ]
        refine take_run (i := 9) (v := ?vbwoa9) rfl (by kernel_rfl) (by kernel_rfl) (by kernel_rfl) (fun _ _ _ h => h) (by rfl) ?ybwoa9 (by assumption) ?rbwoa9
        case ybwoa9 => (intro w hSw; (try dsimp only at hSw); go_simp; try with_reducible rfl)
        try simp only [Act.put, List.setIfInBounds_toArray, List.set_cons_zero, List.set_cons_succ]
        refine take_two (i := 8) (j := 10) rfl rfl (by kernel_rfl) (by rfl) (by rfl) (fun Kq hK => ?fstbwoa) (fun Kq hK => ?sndbwoa)
        case fstbwoa =>
          go_simp
          refine hK.out _ _ ?hbwoax8 (fun hHeld => ?rbwoax8)
          case hbwoax8 => ((try dsimp only); go_keep)
          clear hK Kq
          try simp only [Act.put, List.setIfInBounds_toArray, List.set_cons_zero, List.set_cons_succ]
          refine take_call (i := 10) rfl (by kernel_rfl) (by rfl) (fun Kq hK => ?_)
          go_simp
          refine hK.out _ _ ?hbwoax10 (fun hHeld => ?rbwoax10)
          case hbwoax10 => ((try dsimp only); go_keep)
          clear hK Kq
          try simp only [Act.put, List.setIfInBounds_toArray, List.set_cons_zero, List.set_cons_succ]
          refine wpAnyH_done (by kernel_rfl) ?_ _
          obtain ⟨hown7, hg7, hO7, hR7⟩ := H7.out
          have hg0 := HG.out.1
          have hrd : Dat.rd w7 (OwnT (fun _ => False) (w.heap.size + 4) (.slice (some ⟨g7, 0, none⟩) (pre.length + 1) c7) w7) (mirT xk) [.int .i64 (mirT xk).rule, .int .i64 (mirT xk).term, .slice A5 (mirT xk).kids.length d5] := rd_tree.2 ⟨_, rfl, HQ.out.1, HQ.out.2.1, Vl.of_slice rfl HQ.out.2.2.1 HQ.out.2.2.2 ((HCm8.out.kept (Kept.of_grown (X := fun b => (Value.slice Av pre.length cv).ownBlock = some b) hg7 (fun k hk => hk)) (fun b hb hk => by have q1 := (H2.out.block b hk).2; have q2 := hb.1; omega)).keep (fun _ _ _ => rfl) (fun b hb => ⟨.inr (by have q1 := hb.1; have q2 := H5.out; omega), fun e => HA7.out b hb.1 hb.2 e, by have q1 := hb.2; have q2 := hg7.size; omega⟩))⟩
          have hKE : KeepsOthers W w7 := (⟨HBm8.out.size, fun k o hk _ => (HBm8.out.block k (Array.getElem?_eq_some_iff.1 hk).1).trans hk⟩ : KeepsOthers W _).trans (KeepsOthers.of_grownBy hg7 (fun j o hj ho => HOw.out.isCells hj ho))
          have hKp : Kept (fun b => b = w.heap.size + 1 + 1 ∨ w.heap.size + 4 ≤ b) W w7 := (Kept.of_below _ HBm8.out).grown hg7 (fun k hk => .inl (.inr (H2.out.block k hk).1))
          have hBw : Below w.heap.size w w7 := bgrown (bthen H4.out HBm8.out H4.out.size) hg7 HOw.out (by omega) (by have q1 := HBm8.out.size; have q2 := H5.out; omega)
          have hsz7 : w.heap.size + 4 ≤ w7.heap.size := by have q1 := HBm8.out.size; have q2 := hg7.size; have q3 := H5.out; omega
          have hset := hown7.setLast hrd
          rw [HLn.out] at hset
          have hO9 := (((hO7.far (p := ⟨g7, pre.length * 3, none⟩) ng2 (.int .i64 (mirT xk).rule)).far (p := ⟨g7, pre.length * 3 + 1, none⟩) ng2 (.int .i64 (mirT xk).term)).far (p := ⟨g7, pre.length * 3 + 2, none⟩) ng2 (.slice A5 (mirT xk).kids.length d5)).set_ 2 (.slice (some ⟨g7, 0, none⟩) (pre.length + 1) c7)
          have hR9 := (((hR7.far (p := ⟨g7, pre.length * 3, none⟩) (by show w.heap.size + 1 ≠ g7; omega) (.int .i64 (mirT xk).rule)).far (p := ⟨g7, pre.length * 3 + 1, none⟩) (by show w.heap.size + 1 ≠ g7; omega) (.int .i64 (mirT xk).term)).far (p := ⟨g7, pre.length * 3 + 2, none⟩) (by show w.heap.size + 1 ≠ g7; omega) (.slice A5 (mirT xk).kids.length d5)).far (p := ⟨w.heap.size + 1 + 1, 2, none⟩) (by show w.heap.size + 1 ≠ w.heap.size + 1 + 1; omega) (.slice (some ⟨g7, 0, none⟩) (pre.length + 1) c7)
          refine ⟨((((hKE.trans (KeepsOthers.setCell _ _ _)).trans (KeepsOthers.setCell _ _ _)).trans (KeepsOthers.setCell _ _ _)).trans (KeepsOthers.setCell _ _ _)).from _, (((hKp.setCell (p := ⟨g7, pre.length * 3, none⟩) (.inl (.inr hg0)) _).setCell (p := ⟨g7, pre.length * 3 + 1, none⟩) (.inl (.inr hg0)) _).setCell (p := ⟨g7, pre.length * 3 + 2, none⟩) (.inl (.inr hg0)) _).setCell (p := ⟨w.heap.size + 1 + 1, 2, none⟩) (.inl (.inl rfl)) _, ⟨(.slice (some ⟨g7, 0, none⟩) (pre.length + 1) c7), hO9, ?_⟩, hR9, by simpa [World.setCell] using hsz7, (((hBw.setCell (p := ⟨g7, pre.length * 3, none⟩) (by show w.heap.size ≤ g7; omega) _).setCell (p := ⟨g7, pre.length * 3 + 1, none⟩) (by show w.heap.size ≤ g7; omega) _).setCell (p := ⟨g7, pre.length * 3 + 2, none⟩) (by show w.heap.size ≤ g7; omega) _).setCell (p := ⟨w.heap.size + 1 + 1, 2, none⟩) (by show w.heap.size ≤ w.heap.size + 1 + 1; omega) _⟩
          rw [mirP_snoc]
          exact hset.setCell (p := ⟨w.heap.size + 1 + 1, 2, none⟩) (fun e => ng (Option.some.inj e)) (fun h => h.elim id (fun h => by have q : w.heap.size + 4 ≤ w.heap.size + 1 + 1 := h; omega)) _
        case sndbwoa =>
          go_simp
          refine hK.out _ _ ?hbwoaz10 (fun hHeld => ?rbwoaz10)
          case hbwoaz10 => ((try dsimp only); go_keep)
          clear hK Kq
          try simp only [Act.put, List.setIfInBounds_toArray, List.set_cons_zero, List.set_cons_succ]
          refine take_call (i := 8) rfl (by kernel_rfl) (by rfl) (fun Kq hK => ?_)
          go_simp
          refine hK.out _ _ ?hbwoaz8 (fun hHeld => ?rbwoaz8)
          case hbwoaz8 => ((try dsimp only); go_keep)
          clear hK Kq
          try simp only [Act.put, List.setIfInBounds_toArray, List.set_cons_zero, List.set_cons_succ]
          refine wpAnyH_done (by kernel_rfl) ?_ _
          obtain ⟨hown7, hg7, hO7, hR7⟩ := H7.out
          have hg0 := HG.out.1
          have hrd : Dat.rd w7 (OwnT (fun _ => False) (w.heap.size + 4) (.slice (some ⟨g7, 0, none⟩) (pre.length + 1) c7) w7) (mirT xk) [.int .i64 (mirT xk).rule, .int .i64 (mirT xk).term, .slice A5 (mirT xk).kids.length d5] := rd_tree.2 ⟨_, rfl, HQ.out.1, HQ.out.2.1, Vl.of_slice rfl HQ.out.2.2.1 HQ.out.2.2.2 ((HCm8.out.kept (Kept.of_grown (X := fun b => (Value.slice Av pre.length cv).ownBlock = some b) hg7 (fun k hk => hk)) (fun b hb hk => by have q1 := (H2.out.block b hk).2; have q2 := hb.1; omega)).keep (fun _ _ _ => rfl) (fun b hb => ⟨.inr (by have q1 := hb.1; have q2 := H5.out; omega), fun e => HA7.out b hb.1 hb.2 e, by have q1 := hb.2; have q2 := hg7.size; omega⟩))⟩
          have hKE : KeepsOthers W w7 := (⟨HBm8.out.size, fun k o hk _ => (HBm8.out.block k (Array.getElem?_eq_some_iff.1 hk).1).trans hk⟩ : KeepsOthers W _).trans (KeepsOthers.of_grownBy hg7 (fun j o hj ho => HOw.out.isCells hj ho))
          have hKp : Kept (fun b => b = w.heap.size + 1 + 1 ∨ w.heap.size + 4 ≤ b) W w7 := (Kept.of_below _ HBm8.out).grown hg7 (fun k hk => .inl (.inr (H2.out.block k hk).1))
          have hBw : Below w.heap.size w w7 := bgrown (bthen H4.out HBm8.out H4.out.size) hg7 HOw.out (by omega) (by have q1 := HBm8.out.size; have q2 := H5.out; omega)
          have hsz7 : w.heap.size + 4 ≤ w7.heap.size := by have q1 := HBm8.out.size; have q2 := hg7.size; have q3 := H5.out; omega
          have hown8 := hown7.setCell (p := ⟨w.heap.size + 1 + 1, 2, none⟩) (fun e => ng (Option.some.inj e)) (fun h => h.elim id (fun h => by have q : w.heap.size + 4 ≤ w.heap.size + 1 + 1 := h; omega)) (.slice (some ⟨g7, 0, none⟩) (pre.length + 1) c7)
          have hk8 : Kept (fun b => b = w.heap.size + 1 + 1) w7 (w7.setCell ⟨w.heap.size + 1 + 1, 2, none⟩ (.slice (some ⟨g7, 0, none⟩) (pre.length + 1) c7)) := (Kept.refl (fun b => b = w.heap.size + 1 + 1) w7).setCell (p := ⟨w.heap.size + 1 + 1, 2, none⟩) (.inl rfl) _
          have hset := hown8.setLast (Dat.keep (fun p hp hlt => hk8.cell hlt (fun e => hp.1.elim id (fun h => by have q : w.heap.size + 4 ≤ p.block := h; omega))) (fun b hb => ⟨hb.1, hb.2.1, Nat.lt_of_lt_of_le hb.2.2 hk8.size⟩) hrd)
          rw [HLn.out] at hset
          have hO9 := (((hO7.set_ 2 (.slice (some ⟨g7, 0, none⟩) (pre.length + 1) c7)).far (p := ⟨g7, pre.length * 3, none⟩) ng2 (.int .i64 (mirT xk).rule)).far (p := ⟨g7, pre.length * 3 + 1, none⟩) ng2 (.int .i64 (mirT xk).term)).far (p := ⟨g7, pre.length * 3 + 2, none⟩) ng2 (.slice A5 (mirT xk).kids.length d5)
          have hR9 := (((hR7.far (p := ⟨w.heap.size + 1 + 1, 2, none⟩) (by show w.heap.size + 1 ≠ w.heap.size + 1 + 1; omega) (.slice (some ⟨g7, 0, none⟩) (pre.length + 1) c7)).far (p := ⟨g7, pre.length * 3, none⟩) (by show w.heap.size + 1 ≠ g7; omega) (.int .i64 (mirT xk).rule)).far (p := ⟨g7, pre.length * 3 + 1, none⟩) (by show w.heap.size + 1 ≠ g7; omega) (.int .i64 (mirT xk).term)).far (p := ⟨g7, pre.length * 3 + 2, none⟩) (by show w.heap.size + 1 ≠ g7; omega) (.slice A5 (mirT xk).kids.length d5)
          refine ⟨((((hKE.trans (KeepsOthers.setCell _ _ _)).trans (KeepsOthers.setCell _ _ _)).trans (KeepsOthers.setCell _ _ _)).trans (KeepsOthers.setCell _ _ _)).from _, (((hKp.setCell (p := ⟨w.heap.size + 1 + 1, 2, none⟩) (.inl (.inl rfl)) _).setCell (p := ⟨g7, pre.length * 3, none⟩) (.inl (.inr hg0)) _).setCell (p := ⟨g7, pre.length * 3 + 1, none⟩) (.inl (.inr hg0)) _).setCell (p := ⟨g7, pre.length * 3 + 2, none⟩) (.inl (.inr hg0)) _, ⟨(.slice (some ⟨g7, 0, none⟩) (pre.length + 1) c7), hO9, ?_⟩, hR9, by simpa [World.setCell] using hsz7, (((hBw.setCell (p := ⟨w.heap.size + 1 + 1, 2, none⟩) (by show w.heap.size ≤ w.heap.size + 1 + 1; omega) _).setCell (p := ⟨g7, pre.length * 3, none⟩) (by show w.heap.size ≤ g7; omega) _).setCell (p := ⟨g7, pre.length * 3 + 1, none⟩) (by show w.heap.size ≤ g7; omega) _).setCell (p := ⟨g7, pre.length * 3 + 2, none⟩) (by show w.heap.size ≤ g7; omega) _⟩
          rw [mirP_snoc]
          exact hset
      case twobw =>
        have HBm9 : Hid (Below W.heap.size W ((w5_6).alloc (.cells #[.int .i64 0, .int .i64 0, .slice none 0 0] 39))) := Lib.hid (HBm6.out.alloc HBm6.out.size _)
        have am9 : ((w5_6).alloc (.cells #[.int .i64 0, .int .i64 0, .slice none 0 0] 39)).cell? ⟨w.heap.size + 1 + 1, 2, none⟩ = some (.slice Av pre.length cv) := (HBm9.out.cell (p := ⟨w.heap.size + 1 + 1, 2, none⟩) zO).trans a2
        have y0m9 : ((w5_6).alloc (.cells #[.int .i64 0, .int .i64 0, .slice none 0 0] 39)).cell? ⟨Bx, 0, none⟩ = some (.int .i64 xk.rule) := (HBm9.out.cell (p := ⟨Bx, 0, none⟩) zX).trans x0
        have y1m9 : ((w5_6).alloc (.cells #[.int .i64 0, .int .i64 0, .slice none 0 0] 39)).cell? ⟨Bx, 1, none⟩ = some (.int .i64 xk.term) := (HBm9.out.cell (p := ⟨Bx, 1, none⟩) zX).trans x1
        have y2m9 : ((w5_6).alloc (.cells #[.int .i64 0, .int .i64 0, .slice none 0 0] 39)).cell? ⟨Bx, 1 + 1, none⟩ = some (.slice xA xk.kids.length xc) := (HBm9.out.cell (p := ⟨Bx, 1 + 1, none⟩) zX).trans x2
        have zm9 : w.heap.size + 1 + 1 < ((w5_6).alloc (.cells #[.int .i64 0, .int .i64 0, .slice none 0 0] 39)).heap.size := Nat.lt_of_lt_of_le zO HBm9.out.size
        have HLm9 : Hid (Blk' ((w5_6).alloc (.cells #[.int .i64 0, .int .i64 0, .slice none 0 0] 39)) (w5_6).heap.size 39 #[.int .i64 0, .int .i64 0, .slice none 0 0]) := Lib.hid (Blk'.new _ _ _)
        have HCm9 : Hid (Els ((w5_6).alloc (.cells #[.int .i64 0, .int .i64 0, .slice none 0 0] 39)) (fun b => W.heap.size ≤ b ∧ b < ((w5_6).alloc (.cells #[.int .i64 0, .int .i64 0, .slice none 0 0] 39)).heap.size) (mirT xk).kids A5) := Lib.hid ((HCm6.out.below ((Below.refl _ _).alloc (Nat.le_refl _) _)).keep (fun _ _ _ => rfl) (fun b hb => ⟨hb.1, by have q6 := hb.2; simp; omega⟩))
        go_simp
        refine hK.out _ _ ?hbwt5 (fun hHeld => ?rbwt5)
        case hbwt5 => ((try dsimp only); go_keep)
        clear hK Kq
        try simp only [Act.put, List.setIfInBounds_toArray, List.set_cons_zero, List.set_cons_succ]
        clear am6 y0m6 y1m6 y2m6
        refine take_call (i := 1) rfl (by kernel_rfl) (by rfl) (fun Kq hK => ?_)
        go_simp
        refine hK.out _ _ ?hbwta1 (fun hHeld => ?rbwta1)
        case hbwta1 => ((try dsimp only); go_keep)
        clear hK Kq
        try simp only [Act.put, List.setIfInBounds_toArray, List.set_cons_zero, List.set_cons_succ]
        refine take_run (i := 4) (v := ?vbwta4) rfl (by kernel_rfl) (by kernel_rfl) (by kernel_rfl) (fun _ _ _ h => h) (by rfl) ?ybwta4 (by assumption) ?rbwta4
        case ybwta4 => (intro w hSw; (try dsimp only at hSw); go_simp; try with_reducible rfl)
        try simp only [Act.put, List.setIfInBounds_toArray, List.set_cons_zero, List.set_cons_succ]
        refine take_call (i := 6) rfl (by kernel_rfl) (by rfl) (fun Kq hK => ?_)
        have HOw := Lib.hid (H2.out.below HBm9.out (Nat.le_refl _))
        have HAt : Hid (At ((w5_6).alloc (.cells #[.int .i64 0, .int .i64 0, .slice none 0 0] 39)) ((w5_6).heap.size) 0 [.int .i64 0, .int .i64 0, .slice none 0 0]) := Lib.hid (fun j u hu => by rw [Nat.zero_add, HLm9.out.cell]; simpa using hu)
        refine wp_own1 _ _ _ elemTree rfl rfl HOw.out zeroT [.int .i64 0, .int .i64 0, .slice none 0 0] rfl HAt.out (rd_tree.2 ⟨_, rfl, by show I64 0; unfold I64; omega, by show I64 0; unfold I64; omega, Vl.nil⟩) (by rw [HLn.out]; have q1 := HLm.out; omega) (by rw [HLn.out]; have q1 := HLm.out; omega) (by have q1 := HBm9.out.size; have q2 := H5.out; omega) ?_
        intro v7 w7 hown7 hg7 hat7
        obtain ⟨A7, c7, hv7, hc71, hc72, hor⟩ := hown7.form
        rw [snoc_len, HLn.out] at hv7
        obtain ⟨g7, eA7, hg70, hg71⟩ := hor.resolve_left (by simp)
        subst eA7
        subst hv7
        have HG := Lib.hid (And.intro hg70 hg71)
        have hne7 : ∀ k, k < w.heap.size + 4 ∨ k = Bx → some k ≠ (Value.slice Av pre.length cv).ownBlock := fun k hk e => by have q1 := (H2.out.block k e.symm).1; rcases hk with hk | hk; omega; exact HNe.out (by rw [← hk]; exact e.symm)
        have hO7 := (H1.out.below HBm9.out zO).grown hg7 (hne7 _ (.inl (by omega)))
        have hR7 := (H3.out.below HBm9.out (by omega)).grown hg7 (hne7 _ (.inl (by omega)))
        have hX7 := (HX.out.below HBm9.out zX).grown hg7 (hne7 _ (.inr rfl))
        have H7 := Lib.hid (And.intro hown7 (And.intro hg7 (And.intro hO7 hR7)))
        have m3 : w7.cell? ⟨w.heap.size + 1 + 1, 2, none⟩ = some (.slice Av pre.length cv) := hO7.cell 2
        have f3 := hO7.frozen 2
        have u0 : w7.cell? ⟨Bx, 0, none⟩ = some (.int .i64 xk.rule) := hX7.cell 0
        have u1 : w7.cell? ⟨Bx, 1, none⟩ = some (.int .i64 xk.term) := hX7.cell 1
        have u2 : w7.cell? ⟨Bx, 1 + 1, none⟩ = some (.slice xA xk.kids.length xc) := hX7.cell 2
        have zO7 : w.heap.size + 1 + 1 < w7.heap.size := hO7.lt
        have zX7 : Bx < w7.heap.size := hX7.lt
        obtain ⟨g8, c8, cs8, e8, _, _, hrd8, hat8⟩ := hown7.at_ (k := pre.length) (x := zeroT) (by rw [← HLn.out]; simp)
        injection e8 with e8 e81 e82
        clear e81 e82
        injection e8 with e8
        injection e8 with e8 e81 e82
        clear e81 e82
        subst e8
        obtain ⟨v8, rfl, _, _, hv8⟩ := rd_tree.1 hrd8
        have k0 : w7.cell? ⟨g7, pre.length * 3, none⟩ = some (.int .i64 0) := by have q := hat8 0 _ rfl; exact q
        have k1 : w7.cell? ⟨g7, pre.length * 3 + 1, none⟩ = some (.int .i64 0) := by have q := hat8 1 _ rfl; exact q
        have k2 : w7.cell? ⟨g7, pre.length * 3 + 1 + 1, none⟩ = some v8 := by have q := hat8 2 _ rfl; exact q
        have hfz := hown7.frozenAt
        have fk0 := hfz (pre.length * 3)
        have fk1 := hfz (pre.length * 3 + 1)
        have fk2 := hfz (pre.length * 3 + 1 + 1)
        have ng : ¬ g7 = w.heap.size + 1 + 1 := by omega
        have ng2 : ¬ w.heap.size + 1 + 1 = g7 := by omega
        have HA7 : Hid (∀ b, W.heap.size ≤ b → b < ((w5_6).alloc (.cells #[.int .i64 0, .int .i64 0, .slice none 0 0] 39)).heap.size → (Value.slice (some ⟨g7, 0, none⟩) (pre.length + 1) c7).ownBlock ≠ some b) := Lib.hid (fun b q1 q2 e => by rcases hat7 with q | q; (rw [e] at q; have q3 := (H2.out.block b q.symm).2; omega); (rw [e] at q; have q3 : b = ((w5_6).alloc (.cells #[.int .i64 0, .int .i64 0, .slice none 0 0] 39)).heap.size := Option.some.inj q; omega))
        have HgX : Hid (g7 ≠ Bx) := Lib.hid (by rcases hat7 with q | q; (intro e; rw [e] at q; exact HNe.out q.symm); (have q2 : g7 = ((w5_6).alloc (.cells #[.int .i64 0, .int .i64 0, .slice none 0 0] 39)).heap.size := Option.some.inj q; have q1 := HBm9.out.size; omega))
        have ng5 : ¬ Bx = w.heap.size + 1 + 1 := by omega
        have ng6 : ¬ w.heap.size + 1 + 1 = Bx := by omega
        have ng3 : ¬ g7 = Bx := HgX.out
        have ng4 : ¬ Bx = g7 := fun e => HgX.out e.symm
        have j0 : (0 : Int) ≤ (pre.length : Int) := by omega
        have j1 : (pre.length : Int) < (pre.length : Int) + 1 := by omega
        have j2 : pre.length < pre.length + 1 := by omega
        clear hown7 hg7 hO7 hR7 hX7 hrd8 hat8 hv8 hfz hat7 hne7 hg70 hg71 am9 y0m9 y1m9 y2m9
        refine hK.out _ _ ?hbwta6 (fun hHeld => ?rbwta6)
        case hbwta6 => ((try dsimp only); go_keep)
        clear hK Kq
        try simp only [Act.put, List.setIfInBounds_toArray, List.set_cons_zero, List.set_cons_succ]
        refine take_run (i := 7) (v := ?vbwta7) rfl (by kernel_rfl) (by kernel_rfl) (by kernel_rfl) (fun _ _ _ h => h) (by rfl) ?ybwta7 (by assumption) ?rbwta7
        case ybwta7 => (intro w hSw; (try dsimp only at hSw); go_simp; try with_reducible rfl)
        try simp only [Act.put, List.setIfInBounds_toArray, List.set_cons_zero, List.set_cons_succ]
        refine take_run (i := 9) (v := ?vbwta9) rfl (by kernel_rfl) (by kernel_rfl) (by kernel_rfl) (fun _ _ _ h => h) (by rfl) ?ybwta9 (by assumption) ?rbwta9
        case ybwta9 => (intro w hSw; (try dsimp only at hSw); go_simp; try with_reducible rfl)
        try simp only [Act.put, List.setIfInBounds_toArray, List.set_cons_zero, List.set_cons_succ]
        refine take_two (i := 8) (j := 10) rfl rfl (by kernel_rfl) (by rfl) (by rfl) (fun Kq hK => ?fstbwta) (fun Kq hK => ?sndbwta)
        case fstbwta =>
          go_simp
          refine hK.out _ _ ?hbwtax8 (fun hHeld => ?rbwtax8)
          case hbwtax8 => ((try dsimp only); go_keep)
          clear hK Kq
          try simp only [Act.put, List.setIfInBounds_toArray, List.set_cons_zero, List.set_cons_succ]
          refine take_call (i := 10) rfl (by kernel_rfl) (by rfl) (fun Kq hK => ?_)
          go_simp
          refine hK.out _ _ ?hbwtax10 (fun hHeld => ?rbwtax10)
          case hbwtax10 => ((try dsimp only); go_keep)
          clear hK Kq
          try simp only [Act.put, List.setIfInBounds_toArray, List.set_cons_zero, List.set_cons_succ]
          refine wpAnyH_done (by kernel_rfl) ?_ _
          obtain ⟨hown7, hg7, hO7, hR7⟩ := H7.out
          have hg0 := HG.out.1
          have hrd : Dat.rd w7 (OwnT (fun _ => False) (w.heap.size + 4) (.slice (some ⟨g7, 0, none⟩) (pre.length + 1) c7) w7) (mirT xk) [.int .i64 (mirT xk).rule, .int .i64 (mirT xk).term, .slice A5 (mirT xk).kids.length d5] := rd_tree.2 ⟨_, rfl, HQ.out.1, HQ.out.2.1, Vl.of_slice rfl HQ.out.2.2.1 HQ.out.2.2.2 ((HCm9.out.kept (Kept.of_grown (X := fun b => (Value.slice Av pre.length cv).ownBlock = some b) hg7 (fun k hk => hk)) (fun b hb hk => by have q1 := (H2.out.block b hk).2; have q2 := hb.1; omega)).keep (fun _ _ _ => rfl) (fun b hb => ⟨.inr (by have q1 := hb.1; have q2 := H5.out; omega), fun e => HA7.out b hb.1 hb.2 e, by have q1 := hb.2; have q2 := hg7.size; omega⟩))⟩
          have hKE : KeepsOthers W w7 := (⟨HBm9.out.size, fun k o hk _ => (HBm9.out.block k (Array.getElem?_eq_some_iff.1 hk).1).trans hk⟩ : KeepsOthers W _).trans (KeepsOthers.of_grownBy hg7 (fun j o hj ho => HOw.out.isCells hj ho))
          have hKp : Kept (fun b => b = w.heap.size + 1 + 1 ∨ w.heap.size + 4 ≤ b) W w7 := (Kept.of_below _ HBm9.out).grown hg7 (fun k hk => .inl (.inr (H2.out.block k hk).1))
          have hBw : Below w.heap.size w w7 := bgrown (bthen H4.out HBm9.out H4.out.size) hg7 HOw.out (by omega) (by have q1 := HBm9.out.size; have q2 := H5.out; omega)
          have hsz7 : w.heap.size + 4 ≤ w7.heap.size := by have q1 := HBm9.out.size; have q2 := hg7.size; have q3 := H5.out; omega
          have hset := hown7.setLast hrd
          rw [HLn.out] at hset
          have hO9 := (((hO7.far (p := ⟨g7, pre.length * 3, none⟩) ng2 (.int .i64 (mirT xk).rule)).far (p := ⟨g7, pre.length * 3 + 1, none⟩) ng2 (.int .i64 (mirT xk).term)).far (p := ⟨g7, pre.length * 3 + 2, none⟩) ng2 (.slice A5 (mirT xk).kids.length d5)).set_ 2 (.slice (some ⟨g7, 0, none⟩) (pre.length + 1) c7)
          have hR9 := (((hR7.far (p := ⟨g7, pre.length * 3, none⟩) (by show w.heap.size + 1 ≠ g7; omega) (.int .i64 (mirT xk).rule)).far (p := ⟨g7, pre.length * 3 + 1, none⟩) (by show w.heap.size + 1 ≠ g7; omega) (.int .i64 (mirT xk).term)).far (p := ⟨g7, pre.length * 3 + 2, none⟩) (by show w.heap.size + 1 ≠ g7; omega) (.slice A5 (mirT xk).kids.length d5)).far (p := ⟨w.heap.size + 1 + 1, 2, none⟩) (by show w.heap.size + 1 ≠ w.heap.size + 1 + 1; omega) (.slice (some ⟨g7, 0, none⟩) (pre.length + 1) c7)
          refine ⟨((((hKE.trans (KeepsOthers.setCell _ _ _)).trans (KeepsOthers.setCell _ _ _)).trans (KeepsOthers.setCell _ _ _)).trans (KeepsOthers.setCell _ _ _)).from _, (((hKp.setCell (p := ⟨g7, pre.length * 3, none⟩) (.inl (.inr hg0)) _).setCell (p := ⟨g7, pre.length * 3 + 1, none⟩) (.inl (.inr hg0)) _).setCell (p := ⟨g7, pre.length * 3 + 2, none⟩) (.inl (.inr hg0)) _).setCell (p := ⟨w.heap.size + 1 + 1, 2, none⟩) (.inl (.inl rfl)) _, ⟨(.slice (some ⟨g7, 0, none⟩) (pre.length + 1) c7), hO9, ?_⟩, hR9, by simpa [World.setCell] using hsz7, (((hBw.setCell (p := ⟨g7, pre.length * 3, none⟩) (by show w.heap.size ≤ g7; omega) _).setCell (p := ⟨g7, pre.length * 3 + 1, none⟩) (by show w.heap.size ≤ g7; omega) _).setCell (p := ⟨g7, pre.length * 3 + 2, none⟩) (by show w.heap.size ≤ g7; omega) _).setCell (p := ⟨w.heap.size + 1 + 1, 2, none⟩) (by show w.heap.size ≤ w.heap.size + 1 + 1; omega) _⟩
          rw [mirP_snoc]
          exact hset.setCell (p := ⟨w.heap.size + 1 + 1, 2, none⟩) (fun e => ng (Option.some.inj e)) (fun h => h.elim id (fun h => by have q : w.heap.size + 4 ≤ w.heap.size + 1 + 1 := h; omega)) _
        case sndbwta =>
          go_simp
          refine hK.out _ _ ?hbwtaz10 (fun hHeld => ?rbwtaz10)
          case hbwtaz10 => ((try dsimp only); go_keep)
          clear hK Kq
          try simp only [Act.put, List.setIfInBounds_toArray, List.set_cons_zero, List.set_cons_succ]
          refine take_call (i := 8) rfl (by kernel_rfl) (by rfl) (fun Kq hK => ?_)
          go_simp
          refine hK.out _ _ ?hbwtaz8 (fun hHeld => ?rbwtaz8)
          case hbwtaz8 => ((try dsimp only); go_keep)
          clear hK Kq
          try simp only [Act.put, List.setIfInBounds_toArray, List.set_cons_zero, List.set_cons_succ]
          refine wpAnyH_done (by kernel_rfl) ?_ _
          obtain ⟨hown7, hg7, hO7, hR7⟩ := H7.out
          have hg0 := HG.out.1
          have hrd : Dat.rd w7 (OwnT (fun _ => False) (w.heap.size + 4) (.slice (some ⟨g7, 0, none⟩) (pre.length + 1) c7) w7) (mirT xk) [.int .i64 (mirT xk).rule, .int .i64 (mirT xk).term, .slice A5 (mirT xk).kids.length d5] := rd_tree.2 ⟨_, rfl, HQ.out.1, HQ.out.2.1, Vl.of_slice rfl HQ.out.2.2.1 HQ.out.2.2.2 ((HCm9.out.kept (Kept.of_grown (X := fun b => (Value.slice Av pre.length cv).ownBlock = some b) hg7 (fun k hk => hk)) (fun b hb hk => by have q1 := (H2.out.block b hk).2; have q2 := hb.1; omega)).keep (fun _ _ _ => rfl) (fun b hb => ⟨.inr (by have q1 := hb.1; have q2 := H5.out; omega), fun e => HA7.out b hb.1 hb.2 e, by have q1 := hb.2; have q2 := hg7.size; omega⟩))⟩
          have hKE : KeepsOthers W w7 := (⟨HBm9.out.size, fun k o hk _ => (HBm9.out.block k (Array.getElem?_eq_some_iff.1 hk).1).trans hk⟩ : KeepsOthers W _).trans (KeepsOthers.of_grownBy hg7 (fun j o hj ho => HOw.out.isCells hj ho))
          have hKp : Kept (fun b => b = w.heap.size + 1 + 1 ∨ w.heap.size + 4 ≤ b) W w7 := (Kept.of_below _ HBm9.out).grown hg7 (fun k hk => .inl (.inr (H2.out.block k hk).1))
          have hBw : Below w.heap.size w w7 := bgrown (bthen H4.out HBm9.out H4.out.size) hg7 HOw.out (by omega) (by have q1 := HBm9.out.size; have q2 := H5.out; omega)
          have hsz7 : w.heap.size + 4 ≤ w7.heap.size := by have q1 := HBm9.out.size; have q2 := hg7.size; have q3 := H5.out; omega
          have hown8 := hown7.setCell (p := ⟨w.heap.size + 1 + 1, 2, none⟩) (fun e => ng (Option.some.inj e)) (fun h => h.elim id (fun h => by have q : w.heap.size + 4 ≤ w.heap.size + 1 + 1 := h; omega)) (.slice (some ⟨g7, 0, none⟩) (pre.length + 1) c7)
          have hk8 : Kept (fun b => b = w.heap.size + 1 + 1) w7 (w7.setCell ⟨w.heap.size + 1 + 1, 2, none⟩ (.slice (some ⟨g7, 0, none⟩) (pre.length + 1) c7)) := (Kept.refl (fun b => b = w.heap.size + 1 + 1) w7).setCell (p := ⟨w.heap.size + 1 + 1, 2, none⟩) (.inl rfl) _
          have hset := hown8.setLast (Dat.keep (fun p hp hlt => hk8.cell hlt (fun e => hp.1.elim id (fun h => by have q : w.heap.size + 4 ≤ p.block := h; omega))) (fun b hb => ⟨hb.1, hb.2.1, Nat.lt_of_lt_of_le hb.2.2 hk8.size⟩) hrd)
          rw [HLn.out] at hset
          have hO9 := (((hO7.set_ 2 (.slice (some ⟨g7, 0, none⟩) (pre.length + 1) c7)).far (p := ⟨g7, pre.length * 3, none⟩) ng2 (.int .i64 (mirT xk).rule)).far (p := ⟨g7, pre.length * 3 + 1, none⟩) ng2 (.int .i64 (mirT xk).term)).far (p := ⟨g7, pre.length * 3 + 2, none⟩) ng2 (.slice A5 (mirT xk).kids.length d5)
          have hR9 := (((hR7.far (p := ⟨w.heap.size + 1 + 1, 2, none⟩) (by show w.heap.size + 1 ≠ w.heap.size + 1 + 1; omega) (.slice (some ⟨g7, 0, none⟩) (pre.length + 1) c7)).far (p := ⟨g7, pre.length * 3, none⟩) (by show w.heap.size + 1 ≠ g7; omega) (.int .i64 (mirT xk).rule)).far (p := ⟨g7, pre.length * 3 + 1, none⟩) (by show w.heap.size + 1 ≠ g7; omega) (.int .i64 (mirT xk).term)).far (p := ⟨g7, pre.length * 3 + 2, none⟩) (by show w.heap.size + 1 ≠ g7; omega) (.slice A5 (mirT xk).kids.length d5)
          refine ⟨((((hKE.trans (KeepsOthers.setCell _ _ _)).trans (KeepsOthers.setCell _ _ _)).trans (KeepsOthers.setCell _ _ _)).trans (KeepsOthers.setCell _ _ _)).from _, (((hKp.setCell (p := ⟨w.heap.size + 1 + 1, 2, none⟩) (.inl (.inl rfl)) _).setCell (p := ⟨g7, pre.length * 3, none⟩) (.inl (.inr hg0)) _).setCell (p := ⟨g7, pre.length * 3 + 1, none⟩) (.inl (.inr hg0)) _).setCell (p := ⟨g7, pre.length * 3 + 2, none⟩) (.inl (.inr hg0)) _, ⟨(.slice (some ⟨g7, 0, none⟩) (pre.length + 1) c7), hO9, ?_⟩, hR9, by simpa [World.setCell] using hsz7, (((hBw.setCell (p := ⟨w.heap.size + 1 + 1, 2, none⟩) (by show w.heap.size ≤ w.heap.size + 1 + 1; omega) _).setCell (p := ⟨g7, pre.length * 3, none⟩) (by show w.heap.size ≤ g7; omega) _).setCell (p := ⟨g7, pre.length * 3 + 1, none⟩) (by show w.heap.size ≤ g7; omega) _).setCell (p := ⟨g7, pre.length * 3 + 2, none⟩) (by show w.heap.size ≤ g7; omega) _⟩
          rw [mirP_snoc]
          exact hset
    case thrb =>
      have HBm11 : Hid (Below W.heap.size W ((W.drew).alloc (.cells #[.int .i64 0, .int .i64 0, .slice none 0 0] 39))) := Lib.hid (HBd.out.alloc HBd.out.size _)
      have am11 : ((W.drew).alloc (.cells #[.int .i64 0, .int .i64 0, .slice none 0 0] 39)).cell? ⟨w.heap.size + 1 + 1, 2, none⟩ = some (.slice Av pre.length cv) := (HBm11.out.cell (p := ⟨w.heap.size + 1 + 1, 2, none⟩) zO).trans a2
      have y0m11 : ((W.drew).alloc (.cells #[.int .i64 0, .int .i64 0, .slice none 0 0] 39)).cell? ⟨Bx, 0, none⟩ = some (.int .i64 xk.rule) := (HBm11.out.cell (p := ⟨Bx, 0, none⟩) zX).trans x0
      have y1m11 : ((W.drew).alloc (.cells #[.int .i64 0, .int .i64 0, .slice none 0 0] 39)).cell? ⟨Bx, 1, none⟩ = some (.int .i64 xk.term) := (HBm11.out.cell (p := ⟨Bx, 1, none⟩) zX).trans x1
      have y2m11 : ((W.drew).alloc (.cells #[.int .i64 0, .int .i64 0, .slice none 0 0] 39)).cell? ⟨Bx, 1 + 1, none⟩ = some (.slice xA xk.kids.length xc) := (HBm11.out.cell (p := ⟨Bx, 1 + 1, none⟩) zX).trans x2
      have zm11 : w.heap.size + 1 + 1 < ((W.drew).alloc (.cells #[.int .i64 0, .int .i64 0, .slice none 0 0] 39)).heap.size := Nat.lt_of_lt_of_le zO HBm11.out.size
      have HLm11 : Hid (Blk' ((W.drew).alloc (.cells #[.int .i64 0, .int .i64 0, .slice none 0 0] 39)) (W.drew).heap.size 39 #[.int .i64 0, .int .i64 0, .slice none 0 0]) := Lib.hid (Blk'.new _ _ _)
      go_simp
      refine hK.out _ _ ?hbh5 (fun hHeld => ?rbh5)
      case hbh5 => ((try dsimp only); go_keep)
      clear hK Kq
      try simp only [Act.put, List.setIfInBounds_toArray, List.set_cons_zero, List.set_cons_succ]
      clear ad y0d y1d y2d
      refine take_two (i := 1) (j := 3) rfl rfl (by kernel_rfl) (by rfl) (by rfl) (fun Kq hK => ?onebh) (fun Kq hK => ?twobh)
      case onebh =>
        go_simp
        refine hK.out _ _ ?hbho1 (fun hHeld => ?rbho1)
        case hbho1 => ((try dsimp only); go_keep)
        clear hK Kq
        try simp only [Act.put, List.setIfInBounds_toArray, List.set_cons_zero, List.set_cons_succ]
        refine take_run (i := 4) (v := ?vbho4) rfl (by kernel_rfl) (by kernel_rfl) (by kernel_rfl) (fun _ _ _ h => h) (by rfl) ?ybho4 (by assumption) ?rbho4
        case ybho4 => (intro w hSw; (try dsimp only at hSw); go_simp; try with_reducible rfl)
        try simp only [Act.put, List.setIfInBounds_toArray, List.set_cons_zero, List.set_cons_succ]
        refine take_call (i := 3) rfl (by kernel_rfl) (by rfl) (fun Kq hK => ?_)
        go_simp
        go_at_call 22
        refine (IH.out xk hm S xA xc _ HXk.out.1 HXk.out.2.1 (HNd.out xk hm) HXk.out.2.2.1 HXk.out.2.2.2.1 (fun b hb => by have q1 := HS.out b hb; have q2 := HBm11.out.size; have q3 := H4.out.size; omega) (HXk.out.2.2.2.2.below (bthen H4.out HBm11.out H4.out.size))).mono ?_
        rintro e w5_13 ⟨A5, d5, rfl, q1, q2, q3, q4, q5, hb5⟩
        have HQ := Lib.hid (And.intro q1 (And.intro q2 (And.intro q3 q4)))
        have hbn := bthen HBm11.out hb5 HBm11.out.size
        have HBm13 : Hid (Below W.heap.size W (w5_13)) := Lib.hid (hbn)
        have am13 : (w5_13).cell? ⟨w.heap.size + 1 + 1, 2, none⟩ = some (.slice Av pre.length cv) := (HBm13.out.cell (p := ⟨w.heap.size + 1 + 1, 2, none⟩) zO).trans a2
        have y0m13 : (w5_13).cell? ⟨Bx, 0, none⟩ = some (.int .i64 xk.rule) := (HBm13.out.cell (p := ⟨Bx, 0, none⟩) zX).trans x0
        have y1m13 : (w5_13).cell? ⟨Bx, 1, none⟩ = some (.int .i64 xk.term) := (HBm13.out.cell (p := ⟨Bx, 1, none⟩) zX).trans x1
        have y2m13 : (w5_13).cell? ⟨Bx, 1 + 1, none⟩ = some (.slice xA xk.kids.length xc) := (HBm13.out.cell (p := ⟨Bx, 1 + 1, none⟩) zX).trans x2
        have zm13 : w.heap.size + 1 + 1 < (w5_13).heap.size := Nat.lt_of_lt_of_le zO HBm13.out.size
        have HCm13 : Hid (Els w5_13 (fun b => W.heap.size ≤ b ∧ b < w5_13.heap.size) (mirT xk).kids A5) := Lib.hid (q5.keep (fun _ _ _ => rfl) (fun b hb => ⟨by have q6 := hb.1; have q7 := HBm11.out.size; omega, hb.2⟩))
        have HLm13 := Lib.hid (HLm11.out.below hb5 HLm11.out.lt)
        clear q1 q2 q3 q4 q5 hb5 hbn
        refine hK.out _ _ ?hbhoa3 (fun hHeld => ?rbhoa3)
        case hbhoa3 => ((try dsimp only); go_keep)
        clear hK Kq
        try simp only [Act.put, List.setIfInBounds_toArray, List.set_cons_zero, List.set_cons_succ]
        clear am11 y0m11 y1m11 y2m11
        refine take_call (i := 6) rfl (by kernel_rfl) (by rfl) (fun Kq hK => ?_)
        have HOw := Lib.hid (H2.out.below HBm13.out (Nat.le_refl _))
        have HAt : Hid (At (w5_13) ((W.drew).heap.size) 0 [.int .i64 0, .int .i64 0, .slice none 0 0]) := Lib.hid (fun j u hu => by rw [Nat.zero_add, HLm13.out.cell]; simpa using hu)
        refine wp_own1 _ _ _ elemTree rfl rfl HOw.out zeroT [.int .i64 0, .int .i64 0, .slice none 0 0] rfl HAt.out (rd_tree.2 ⟨_, rfl, by show I64 0; unfold I64; omega, by show I64 0; unfold I64; omega, Vl.nil⟩) (by rw [HLn.out]; have q1 := HLm.out; omega) (by rw [HLn.out]; have q1 := HLm.out; omega) (by have q1 := HBm13.out.size; have q2 := H5.out; omega) ?_
        intro v7 w7 hown7 hg7 hat7
        obtain ⟨A7, c7, hv7, hc71, hc72, hor⟩ := hown7.form
        rw [snoc_len, HLn.out] at hv7
        obtain ⟨g7, eA7, hg70, hg71⟩ := hor.resolve_left (by simp)
        subst eA7
        subst hv7
        have HG := Lib.hid (And.intro hg70 hg71)
        have hne7 : ∀ k, k < w.heap.size + 4 ∨ k = Bx → some k ≠ (Value.slice Av pre.length cv).ownBlock := fun k hk e => by have q1 := (H2.out.block k e.symm).1; rcases hk with hk | hk; omega; exact HNe.out (by rw [← hk]; exact e.symm)
        have hO7 := (H1.out.below HBm13.out zO).grown hg7 (hne7 _ (.inl (by omega)))
        have hR7 := (H3.out.below HBm13.out (by omega)).grown hg7 (hne7 _ (.inl (by omega)))
        have hX7 := (HX.out.below HBm13.out zX).grown hg7 (hne7 _ (.inr rfl))
        have H7 := Lib.hid (And.intro hown7 (And.intro hg7 (And.intro hO7 hR7)))
        have m3 : w7.cell? ⟨w.heap.size + 1 + 1, 2, none⟩ = some (.slice Av pre.length cv) := hO7.cell 2
        have f3 := hO7.frozen 2
        have u0 : w7.cell? ⟨Bx, 0, none⟩ = some (.int .i64 xk.rule) := hX7.cell 0
        have u1 : w7.cell? ⟨Bx, 1, none⟩ = some (.int .i64 xk.term) := hX7.cell 1
        have u2 : w7.cell? ⟨Bx, 1 + 1, none⟩ = some (.slice xA xk.kids.length xc) := hX7.cell 2
        have zO7 : w.heap.size + 1 + 1 < w7.heap.size := hO7.lt
        have zX7 : Bx < w7.heap.size := hX7.lt
        obtain ⟨g8, c8, cs8, e8, _, _, hrd8, hat8⟩ := hown7.at_ (k := pre.length) (x := zeroT) (by rw [← HLn.out]; simp)
        injection e8 with e8 e81 e82
        clear e81 e82
        injection e8 with e8
        injection e8 with e8 e81 e82
        clear e81 e82
        subst e8
        obtain ⟨v8, rfl, _, _, hv8⟩ := rd_tree.1 hrd8
        have k0 : w7.cell? ⟨g7, pre.length * 3, none⟩ = some (.int .i64 0) := by have q := hat8 0 _ rfl; exact q
        have k1 : w7.cell? ⟨g7, pre.length * 3 + 1, none⟩ = some (.int .i64 0) := by have q := hat8 1 _ rfl; exact q
        have k2 : w7.cell? ⟨g7, pre.length * 3 + 1 + 1, none⟩ = some v8 := by have q := hat8 2 _ rfl; exact q
        have hfz := hown7.frozenAt
        have fk0 := hfz (pre.length * 3)
        have fk1 := hfz (pre.length * 3 + 1)
        have fk2 := hfz (pre.length * 3 + 1 + 1)
        have ng : ¬ g7 = w.heap.size + 1 + 1 := by omega
        have ng2 : ¬ w.heap.size + 1 + 1 = g7 := by omega
        have HA7 : Hid (∀ b, W.heap.size ≤ b → b < (w5_13).heap.size → (Value.slice (some ⟨g7, 0, none⟩) (pre.length + 1) c7).ownBlock ≠ some b) := Lib.hid (fun b q1 q2 e => by rcases hat7 with q | q; (rw [e] at q; have q3 := (H2.out.block b q.symm).2; omega); (rw [e] at q; have q3 : b = (w5_13).heap.size := Option.some.inj q; omega))
        have HgX : Hid (g7 ≠ Bx) := Lib.hid (by rcases hat7 with q | q; (intro e; rw [e] at q; exact HNe.out q.symm); (have q2 : g7 = (w5_13).heap.size := Option.some.inj q; have q1 := HBm13.out.size; omega))
        have ng5 : ¬ Bx = w.heap.size + 1 + 1 := by omega
        have ng6 : ¬ w.heap.size + 1 + 1 = Bx := by omega
        have ng3 : ¬ g7 = Bx := HgX.out
        have ng4 : ¬ Bx = g7 := fun e => HgX.out e.symm
        have j0 : (0 : Int) ≤ (pre.length : Int) := by omega
        have j1 : (pre.length : Int) < (pre.length : Int) + 1 := by omega
        have j2 : pre.length < pre.length + 1 := by omega
        clear hown7 hg7 hO7 hR7 hX7 hrd8 hat8 hv8 hfz hat7 hne7 hg70 hg71 am13 y0m13 y1m13 y2m13
        refine hK.out _ _ ?hbhoa6 (fun hHeld => ?rbhoa6)
        case hbhoa6 => ((try dsimp only); go_keep)
        clear hK Kq
        try simp only [Act.put, List.setIfInBounds_toArray, List.set_cons_zero, List.set_cons_succ]
        refine take_run (i := 7) (v := ?vbhoa7) rfl (by kernel_rfl) (by kernel_rfl) (by kernel_rfl) (fun _ _ _ h => h) (by rfl) ?ybhoa7 (by assumption) ?rbhoa7
        case ybhoa7 => (intro w hSw; (try dsimp only at hSw); go_simp; try with_reducible rfl)
        try simp only [Act.put, List.setIfInBounds_toArray, List.set_cons_zero, List.set_cons_succ]
        refine take_run (i := 9) (v := ?vbhoa9) rfl (by kernel_rfl) (by kernel_rfl) (by kernel_rfl) (fun _ _ _ h => h) (by rfl) ?ybhoa9 (by assumption) ?rbhoa9
        case ybhoa9 => (intro w hSw; (try dsimp only at hSw); go_simp; try with_reducible rfl)
        try simp only [Act.put, List.setIfInBounds_toArray, List.set_cons_zero, List.set_cons_succ]
        refine take_two (i := 8) (j := 10) rfl rfl (by kernel_rfl) (by rfl) (by rfl) (fun Kq hK => ?fstbhoa) (fun Kq hK => ?sndbhoa)
        case fstbhoa =>
          go_simp
          refine hK.out _ _ ?hbhoax8 (fun hHeld => ?rbhoax8)
          case hbhoax8 => ((try dsimp only); go_keep)
          clear hK Kq
          try simp only [Act.put, List.setIfInBounds_toArray, List.set_cons_zero, List.set_cons_succ]
          refine take_call (i := 10) rfl (by kernel_rfl) (by rfl) (fun Kq hK => ?_)
          go_simp
          refine hK.out _ _ ?hbhoax10 (fun hHeld => ?rbhoax10)
          case hbhoax10 => ((try dsimp only); go_keep)
          clear hK Kq
          try simp only [Act.put, List.setIfInBounds_toArray, List.set_cons_zero, List.set_cons_succ]
          refine wpAnyH_done (by kernel_rfl) ?_ _
          obtain ⟨hown7, hg7, hO7, hR7⟩ := H7.out
          have hg0 := HG.out.1
          have hrd : Dat.rd w7 (OwnT (fun _ => False) (w.heap.size + 4) (.slice (some ⟨g7, 0, none⟩) (pre.length + 1) c7) w7) (mirT xk) [.int .i64 (mirT xk).rule, .int .i64 (mirT xk).term, .slice A5 (mirT xk).kids.length d5] := rd_tree.2 ⟨_, rfl, HQ.out.1, HQ.out.2.1, Vl.of_slice rfl HQ.out.2.2.1 HQ.out.2.2.2 ((HCm13.out.kept (Kept.of_grown (X := fun b => (Value.slice Av pre.length cv).ownBlock = some b) hg7 (fun k hk => hk)) (fun b hb hk => by have q1 := (H2.out.block b hk).2; have q2 := hb.1; omega)).keep (fun _ _ _ => rfl) (fun b hb => ⟨.inr (by have q1 := hb.1; have q2 := H5.out; omega), fun e => HA7.out b hb.1 hb.2 e, by have q1 := hb.2; have q2 := hg7.size; omega⟩))⟩
          have hKE : KeepsOthers W w7 := (⟨HBm13.out.size, fun k o hk _ => (HBm13.out.block k (Array.getElem?_eq_some_iff.1 hk).1).trans hk⟩ : KeepsOthers W _).trans (KeepsOthers.of_grownBy hg7 (fun j o hj ho => HOw.out.isCells hj ho))
          have hKp : Kept (fun b => b = w.heap.size + 1 + 1 ∨ w.heap.size + 4 ≤ b) W w7 := (Kept.of_below _ HBm13.out).grown hg7 (fun k hk => .inl (.inr (H2.out.block k hk).1))
          have hBw : Below w.heap.size w w7 := bgrown (bthen H4.out HBm13.out H4.out.size) hg7 HOw.out (by omega) (by have q1 := HBm13.out.size; have q2 := H5.out; omega)
          have hsz7 : w.heap.size + 4 ≤ w7.heap.size := by have q1 := HBm13.out.size; have q2 := hg7.size; have q3 := H5.out; omega
          have hset := hown7.setLast hrd
          rw [HLn.out] at hset
          have hO9 := (((hO7.far (p := ⟨g7, pre.length * 3, none⟩) ng2 (.int .i64 (mirT xk).rule)).far (p := ⟨g7, pre.length * 3 + 1, none⟩) ng2 (.int .i64 (mirT xk).term)).far (p := ⟨g7, pre.length * 3 + 2, none⟩) ng2 (.slice A5 (mirT xk).kids.length d5)).set_ 2 (.slice (some ⟨g7, 0, none⟩) (pre.length + 1) c7)
          have hR9 := (((hR7.far (p := ⟨g7, pre.length * 3, none⟩) (by show w.heap.size + 1 ≠ g7; omega) (.int .i64 (mirT xk).rule)).far (p := ⟨g7, pre.length * 3 + 1, none⟩) (by show w.heap.size + 1 ≠ g7; omega) (.int .i64 (mirT xk).term)).far (p := ⟨g7, pre.length * 3 + 2, none⟩) (by show w.heap.size + 1 ≠ g7; omega) (.slice A5 (mirT xk).kids.length d5)).far (p := ⟨w.heap.size + 1 + 1, 2, none⟩) (by show w.heap.size + 1 ≠ w.heap.size + 1 + 1; omega) (.slice (some ⟨g7, 0, none⟩) (pre.length + 1) c7)
          refine ⟨((((hKE.trans (KeepsOthers.setCell _ _ _)).trans (KeepsOthers.setCell _ _ _)).trans (KeepsOthers.setCell _ _ _)).trans (KeepsOthers.setCell _ _ _)).from _, (((hKp.setCell (p := ⟨g7, pre.length * 3, none⟩) (.inl (.inr hg0)) _).setCell (p := ⟨g7, pre.length * 3 + 1, none⟩) (.inl (.inr hg0)) _).setCell (p := ⟨g7, pre.length * 3 + 2, none⟩) (.inl (.inr hg0)) _).setCell (p := ⟨w.heap.size + 1 + 1, 2, none⟩) (.inl (.inl rfl)) _, ⟨(.slice (some ⟨g7, 0, none⟩) (pre.length + 1) c7), hO9, ?_⟩, hR9, by simpa [World.setCell] using hsz7, (((hBw.setCell (p := ⟨g7, pre.length * 3, none⟩) (by show w.heap.size ≤ g7; omega) _).setCell (p := ⟨g7, pre.length * 3 + 1, none⟩) (by show w.heap.size ≤ g7; omega) _).setCell (p := ⟨g7, pre.length * 3 + 2, none⟩) (by show w.heap.size ≤ g7; omega) _).setCell (p := ⟨w.heap.size + 1 + 1, 2, none⟩) (by show w.heap.size ≤ w.heap.size + 1 + 1; omega) _⟩
          rw [mirP_snoc]
          exact hset.setCell (p := ⟨w.heap.size + 1 + 1, 2, none⟩) (fun e => ng (Option.some.inj e)) (fun h => h.elim id (fun h => by have q : w.heap.size + 4 ≤ w.heap.size + 1 + 1 := h; omega)) _
        case sndbhoa =>
          go_simp
          refine hK.out _ _ ?hbhoaz10 (fun hHeld => ?rbhoaz10)
          case hbhoaz10 => ((try dsimp only); go_keep)
          clear hK Kq
          try simp only [Act.put, List.setIfInBounds_toArray, List.set_cons_zero, List.set_cons_succ]
          refine take_call (i := 8) rfl (by kernel_rfl) (by rfl) (fun Kq hK => ?_)
          go_simp
          refine hK.out _ _ ?hbhoaz8 (fun hHeld => ?rbhoaz8)
          case hbhoaz8 => ((try dsimp only); go_keep)
          clear hK Kq
          try simp only [Act.put, List.setIfInBounds_toArray, List.set_cons_zero, List.set_cons_succ]
          refine wpAnyH_done (by kernel_rfl) ?_ _
          obtain ⟨hown7, hg7, hO7, hR7⟩ := H7.out
          have hg0 := HG.out.1
          have hrd : Dat.rd w7 (OwnT (fun _ => False) (w.heap.size + 4) (.slice (some ⟨g7, 0, none⟩) (pre.length + 1) c7) w7) (mirT xk) [.int .i64 (mirT xk).rule, .int .i64 (mirT xk).term, .slice A5 (mirT xk).kids.length d5] := rd_tree.2 ⟨_, rfl, HQ.out.1, HQ.out.2.1, Vl.of_slice rfl HQ.out.2.2.1 HQ.out.2.2.2 ((HCm13.out.kept (Kept.of_grown (X := fun b => (Value.slice Av pre.length cv).ownBlock = some b) hg7 (fun k hk => hk)) (fun b hb hk => by have q1 := (H2.out.block b hk).2; have q2 := hb.1; omega)).keep (fun _ _ _ => rfl) (fun b hb => ⟨.inr (by have q1 := hb.1; have q2 := H5.out; omega), fun e => HA7.out b hb.1 hb.2 e, by have q1 := hb.2; have q2 := hg7.size; omega⟩))⟩
          have hKE : KeepsOthers W w7 := (⟨HBm13.out.size, fun k o hk _ => (HBm13.out.block k (Array.getElem?_eq_some_iff.1 hk).1).trans hk⟩ : KeepsOthers W _).trans (KeepsOthers.of_grownBy hg7 (fun j o hj ho => HOw.out.isCells hj ho))
          have hKp : Kept (fun b => b = w.heap.size + 1 + 1 ∨ w.heap.size + 4 ≤ b) W w7 := (Kept.of_below _ HBm13.out).grown hg7 (fun k hk => .inl (.inr (H2.out.block k hk).1))
          have hBw : Below w.heap.size w w7 := bgrown (bthen H4.out HBm13.out H4.out.size) hg7 HOw.out (by omega) (by have q1 := HBm13.out.size; have q2 := H5.out; omega)
          have hsz7 : w.heap.size + 4 ≤ w7.heap.size := by have q1 := HBm13.out.size; have q2 := hg7.size; have q3 := H5.out; omega
          have hown8 := hown7.setCell (p := ⟨w.heap.size + 1 + 1, 2, none⟩) (fun e => ng (Option.some.inj e)) (fun h => h.elim id (fun h => by have q : w.heap.size + 4 ≤ w.heap.size + 1 + 1 := h; omega)) (.slice (some ⟨g7, 0, none⟩) (pre.length + 1) c7)
          have hk8 : Kept (fun b => b = w.heap.size + 1 + 1) w7 (w7.setCell ⟨w.heap.size + 1 + 1, 2, none⟩ (.slice (some ⟨g7, 0, none⟩) (pre.length + 1) c7)) := (Kept.refl (fun b => b = w.heap.size + 1 + 1) w7).setCell (p := ⟨w.heap.size + 1 + 1, 2, none⟩) (.inl rfl) _
          have hset := hown8.setLast (Dat.keep (fun p hp hlt => hk8.cell hlt (fun e => hp.1.elim id (fun h => by have q : w.heap.size + 4 ≤ p.block := h; omega))) (fun b hb => ⟨hb.1, hb.2.1, Nat.lt_of_lt_of_le hb.2.2 hk8.size⟩) hrd)
          rw [HLn.out] at hset
          have hO9 := (((hO7.set_ 2 (.slice (some ⟨g7, 0, none⟩) (pre.length + 1) c7)).far (p := ⟨g7, pre.length * 3, none⟩) ng2 (.int .i64 (mirT xk).rule)).far (p := ⟨g7, pre.length * 3 + 1, none⟩) ng2 (.int .i64 (mirT xk).term)).far (p := ⟨g7, pre.length * 3 + 2, none⟩) ng2 (.slice A5 (mirT xk).kids.length d5)
          have hR9 := (((hR7.far (p := ⟨w.heap.size + 1 + 1, 2, none⟩) (by show w.heap.size + 1 ≠ w.heap.size + 1 + 1; omega) (.slice (some ⟨g7, 0, none⟩) (pre.length + 1) c7)).far (p := ⟨g7, pre.length * 3, none⟩) (by show w.heap.size + 1 ≠ g7; omega) (.int .i64 (mirT xk).rule)).far (p := ⟨g7, pre.length * 3 + 1, none⟩) (by show w.heap.size + 1 ≠ g7; omega) (.int .i64 (mirT xk).term)).far (p := ⟨g7, pre.length * 3 + 2, none⟩) (by show w.heap.size + 1 ≠ g7; omega) (.slice A5 (mirT xk).kids.length d5)
          refine ⟨((((hKE.trans (KeepsOthers.setCell _ _ _)).trans (KeepsOthers.setCell _ _ _)).trans (KeepsOthers.setCell _ _ _)).trans (KeepsOthers.setCell _ _ _)).from _, (((hKp.setCell (p := ⟨w.heap.size + 1 + 1, 2, none⟩) (.inl (.inl rfl)) _).setCell (p := ⟨g7, pre.length * 3, none⟩) (.inl (.inr hg0)) _).setCell (p := ⟨g7, pre.length * 3 + 1, none⟩) (.inl (.inr hg0)) _).setCell (p := ⟨g7, pre.length * 3 + 2, none⟩) (.inl (.inr hg0)) _, ⟨(.slice (some ⟨g7, 0, none⟩) (pre.length + 1) c7), hO9, ?_⟩, hR9, by simpa [World.setCell] using hsz7, (((hBw.setCell (p := ⟨w.heap.size + 1 + 1, 2, none⟩) (by show w.heap.size ≤ w.heap.size + 1 + 1; omega) _).setCell (p := ⟨g7, pre.length * 3, none⟩) (by show w.heap.size ≤ g7; omega) _).setCell (p := ⟨g7, pre.length * 3 + 1, none⟩) (by show w.heap.size ≤ g7; omega) _).setCell (p := ⟨g7, pre.length * 3 + 2, none⟩) (by show w.heap.size ≤ g7; omega) _⟩
          rw [mirP_snoc]
          exact hset
      case twobh =>
        go_simp
        go_at_call 22
        refine (IH.out xk hm S xA xc _ HXk.out.1 HXk.out.2.1 (HNd.out xk hm) HXk.out.2.2.1 HXk.out.2.2.2.1 (fun b hb => by have q1 := HS.out b hb; have q2 := HBm11.out.size; have q3 := H4.out.size; omega) (HXk.out.2.2.2.2.below (bthen H4.out HBm11.out H4.out.size))).mono ?_
        rintro e w5_14 ⟨A5, d5, rfl, q1, q2, q3, q4, q5, hb5⟩
        have HQ := Lib.hid (And.intro q1 (And.intro q2 (And.intro q3 q4)))
        have hbn := bthen HBm11.out hb5 HBm11.out.size
        have HBm14 : Hid (Below W.heap.size W (w5_14)) := Lib.hid (hbn)
        have am14 : (w5_14).cell? ⟨w.heap.size + 1 + 1, 2, none⟩ = some (.slice Av pre.length cv) := (HBm14.out.cell (p := ⟨w.heap.size + 1 + 1, 2, none⟩) zO).trans a2
        have y0m14 : (w5_14).cell? ⟨Bx, 0, none⟩ = some (.int .i64 xk.rule) := (HBm14.out.cell (p := ⟨Bx, 0, none⟩) zX).trans x0
        have y1m14 : (w5_14).cell? ⟨Bx, 1, none⟩ = some (.int .i64 xk.term) := (HBm14.out.cell (p := ⟨Bx, 1, none⟩) zX).trans x1
        have y2m14 : (w5_14).cell? ⟨Bx, 1 + 1, none⟩ = some (.slice xA xk.kids.length xc) := (HBm14.out.cell (p := ⟨Bx, 1 + 1, none⟩) zX).trans x2
        have zm14 : w.heap.size + 1 + 1 < (w5_14).heap.size := Nat.lt_of_lt_of_le zO HBm14.out.size
        have HCm14 : Hid (Els w5_14 (fun b => W.heap.size ≤ b ∧ b < w5_14.heap.size) (mirT xk).kids A5) := Lib.hid (q5.keep (fun _ _ _ => rfl) (fun b hb => ⟨by have q6 := hb.1; have q7 := HBm11.out.size; omega, hb.2⟩))
        have HLm14 := Lib.hid (HLm11.out.below hb5 HLm11.out.lt)
        clear q1 q2 q3 q4 q5 hb5 hbn
        refine hK.out _ _ ?hbht3 (fun hHeld => ?rbht3)
        case hbht3 => ((try dsimp only); go_keep)
        clear hK Kq
        try simp only [Act.put, List.setIfInBounds_toArray, List.set_cons_zero, List.set_cons_succ]
        clear am11 y0m11 y1m11 y2m11
        refine take_call (i := 1) rfl (by kernel_rfl) (by rfl) (fun Kq hK => ?_)
        go_simp
        refine hK.out _ _ ?hbhta1 (fun hHeld => ?rbhta1)
        case hbhta1 => ((try dsimp only); go_keep)
        clear hK Kq
        try simp only [Act.put, List.setIfInBounds_toArray, List.set_cons_zero, List.set_cons_succ]
        refine take_run (i := 4) (v := ?vbhta4) rfl (by kernel_rfl) (by kernel_rfl) (by kernel_rfl) (fun _ _ _ h => h) (by rfl) ?ybhta4 (by assumption) ?rbhta4
        case ybhta4 => (intro w hSw; (try dsimp only at hSw); go_simp; try with_reducible rfl)
        try simp only [Act.put, List.setIfInBounds_toArray, List.set_cons_zero, List.set_cons_succ]
        refine take_call (i := 6) rfl (by kernel_rfl) (by rfl) (fun Kq hK => ?_)
        have HOw := Lib.hid (H2.out.below HBm14.out (Nat.le_refl _))
        have HAt : Hid (At (w5_14) ((W.drew).heap.size) 0 [.int .i64 0, .int .i64 0, .slice none 0 0]) := Lib.hid (fun j u hu => by rw [Nat.zero_add, HLm14.out.cell]; simpa using hu)
        refine wp_own1 _ _ _ elemTree rfl rfl HOw.out zeroT [.int .i64 0, .int .i64 0, .slice none 0 0] rfl HAt.out (rd_tree.2 ⟨_, rfl, by show I64 0; unfold I64; omega, by show I64 0; unfold I64; omega, Vl.nil⟩) (by rw [HLn.out]; have q1 := HLm.out; omega) (by rw [HLn.out]; have q1 := HLm.out; omega) (by have q1 := HBm14.out.size; have q2 := H5.out; omega) ?_
        intro v7 w7 hown7 hg7 hat7
        obtain ⟨A7, c7, hv7, hc71, hc72, hor⟩ := hown7.form
        rw [snoc_len, HLn.out] at hv7
        obtain ⟨g7, eA7, hg70, hg71⟩ := hor.resolve_left (by simp)
        subst eA7
        subst hv7
        have HG := Lib.hid (And.intro hg70 hg71)
        have hne7 : ∀ k, k < w.heap.size + 4 ∨ k = Bx → some k ≠ (Value.slice Av pre.length cv).ownBlock := fun k hk e => by have q1 := (H2.out.block k e.symm).1; rcases hk with hk | hk; omega; exact HNe.out (by rw [← hk]; exact e.symm)
        have hO7 := (H1.out.below HBm14.out zO).grown hg7 (hne7 _ (.inl (by omega)))
        have hR7 := (H3.out.below HBm14.out (by omega)).grown hg7 (hne7 _ (.inl (by omega)))
        have hX7 := (HX.out.below HBm14.out zX).grown hg7 (hne7 _ (.inr rfl))
        have H7 := Lib.hid (And.intro hown7 (And.intro hg7 (And.intro hO7 hR7)))
        have m3 : w7.cell? ⟨w.heap.size + 1 + 1, 2, none⟩ = some (.slice Av pre.length cv) := hO7.cell 2
        have f3 := hO7.frozen 2
        have u0 : w7.cell? ⟨Bx, 0, none⟩ = some (.int .i64 xk.rule) := hX7.cell 0
        have u1 : w7.cell? ⟨Bx, 1, none⟩ = some (.int .i64 xk.term) := hX7.cell 1
        have u2 : w7.cell? ⟨Bx, 1 + 1, none⟩ = some (.slice xA xk.kids.length xc) := hX7.cell 2
        have zO7 : w.heap.size + 1 + 1 < w7.heap.size := hO7.lt
        have zX7 : Bx < w7.heap.size := hX7.lt
        obtain ⟨g8, c8, cs8, e8, _, _, hrd8, hat8⟩ := hown7.at_ (k := pre.length) (x := zeroT) (by rw [← HLn.out]; simp)
        injection e8 with e8 e81 e82
        clear e81 e82
        injection e8 with e8
        injection e8 with e8 e81 e82
        clear e81 e82
        subst e8
        obtain ⟨v8, rfl, _, _, hv8⟩ := rd_tree.1 hrd8
        have k0 : w7.cell? ⟨g7, pre.length * 3, none⟩ = some (.int .i64 0) := by have q := hat8 0 _ rfl; exact q
        have k1 : w7.cell? ⟨g7, pre.length * 3 + 1, none⟩ = some (.int .i64 0) := by have q := hat8 1 _ rfl; exact q
        have k2 : w7.cell? ⟨g7, pre.length * 3 + 1 + 1, none⟩ = some v8 := by have q := hat8 2 _ rfl; exact q
        have hfz := hown7.frozenAt
        have fk0 := hfz (pre.length * 3)
        have fk1 := hfz (pre.length * 3 + 1)
        have fk2 := hfz (pre.length * 3 + 1 + 1)
        have ng : ¬ g7 = w.heap.size + 1 + 1 := by omega
        have ng2 : ¬ w.heap.size + 1 + 1 = g7 := by omega
        have HA7 : Hid (∀ b, W.heap.size ≤ b → b < (w5_14).heap.size → (Value.slice (some ⟨g7, 0, none⟩) (pre.length + 1) c7).ownBlock ≠ some b) := Lib.hid (fun b q1 q2 e => by rcases hat7 with q | q; (rw [e] at q; have q3 := (H2.out.block b q.symm).2; omega); (rw [e] at q; have q3 : b = (w5_14).heap.size := Option.some.inj q; omega))
        have HgX : Hid (g7 ≠ Bx) := Lib.hid (by rcases hat7 with q | q; (intro e; rw [e] at q; exact HNe.out q.symm); (have q2 : g7 = (w5_14).heap.size := Option.some.inj q; have q1 := HBm14.out.size; omega))
        have ng5 : ¬ Bx = w.heap.size + 1 + 1 := by omega
        have ng6 : ¬ w.heap.size + 1 + 1 = Bx := by omega
        have ng3 : ¬ g7 = Bx := HgX.out
        have ng4 : ¬ Bx = g7 := fun e => HgX.out e.symm
        have j0 : (0 : Int) ≤ (pre.length : Int) := by omega
        have j1 : (pre.length : Int) < (pre.length : Int) + 1 := by omega
        have j2 : pre.length < pre.length + 1 := by omega
        clear hown7 hg7 hO7 hR7 hX7 hrd8 hat8 hv8 hfz hat7 hne7 hg70 hg71 am14 y0m14 y1m14 y2m14
        refine hK.out _ _ ?hbhta6 (fun hHeld => ?rbhta6)
        case hbhta6 => ((try dsimp only); go_keep)
        clear hK Kq
        try simp only [Act.put, List.setIfInBounds_toArray, List.set_cons_zero, List.set_cons_succ]
        refine take_run (i := 7) (v := ?vbhta7) rfl (by kernel_rfl) (by kernel_rfl) (by kernel_rfl) (fun _ _ _ h => h) (by rfl) ?ybhta7 (by assumption) ?rbhta7
        case ybhta7 => (intro w hSw; (try dsimp only at hSw); go_simp; try with_reducible rfl)
        try simp only [Act.put, List.setIfInBounds_toArray, List.set_cons_zero, List.set_cons_succ]
        refine take_run (i := 9) (v := ?vbhta9) rfl (by kernel_rfl) (by kernel_rfl) (by kernel_rfl) (fun _ _ _ h => h) (by rfl) ?ybhta9 (by assumption) ?rbhta9
        case ybhta9 => (intro w hSw; (try dsimp only at hSw); go_simp; try with_reducible rfl)
        try simp only [Act.put, List.setIfInBounds_toArray, List.set_cons_zero, List.set_cons_succ]
        refine take_two (i := 8) (j := 10) rfl rfl (by kernel_rfl) (by rfl) (by rfl) (fun Kq hK => ?fstbhta) (fun Kq hK => ?sndbhta)
        case fstbhta =>
          go_simp
          refine hK.out _ _ ?hbhtax8 (fun hHeld => ?rbhtax8)
          case hbhtax8 => ((try dsimp only); go_keep)
          clear hK Kq
          try simp only [Act.put, List.setIfInBounds_toArray, List.set_cons_zero, List.set_cons_succ]
          refine take_call (i := 10) rfl (by kernel_rfl) (by rfl) (fun Kq hK => ?_)
          go_simp
          refine hK.out _ _ ?hbhtax10 (fun hHeld => ?rbhtax10)
          case hbhtax10 => ((try dsimp only); go_keep)
          clear hK Kq
          try simp only [Act.put, List.setIfInBounds_toArray, List.set_cons_zero, List.set_cons_succ]
          refine wpAnyH_done (by kernel_rfl) ?_ _
          obtain ⟨hown7, hg7, hO7, hR7⟩ := H7.out
          have hg0 := HG.out.1
          have hrd : Dat.rd w7 (OwnT (fun _ => False) (w.heap.size + 4) (.slice (some ⟨g7, 0, none⟩) (pre.length + 1) c7) w7) (mirT xk) [.int .i64 (mirT xk).rule, .int .i64 (mirT xk).term, .slice A5 (mirT xk).kids.length d5] := rd_tree.2 ⟨_, rfl, HQ.out.1, HQ.out.2.1, Vl.of_slice rfl HQ.out.2.2.1 HQ.out.2.2.2 ((HCm14.out.kept (Kept.of_grown (X := fun b => (Value.slice Av pre.length cv).ownBlock = some b) hg7 (fun k hk => hk)) (fun b hb hk => by have q1 := (H2.out.block b hk).2; have q2 := hb.1; omega)).keep (fun _ _ _ => rfl) (fun b hb => ⟨.inr (by have q1 := hb.1; have q2 := H5.out; omega), fun e => HA7.out b hb.1 hb.2 e, by have q1 := hb.2; have q2 := hg7.size; omega⟩))⟩
          have hKE : KeepsOthers W w7 := (⟨HBm14.out.size, fun k o hk _ => (HBm14.out.block k (Array.getElem?_eq_some_iff.1 hk).1).trans hk⟩ : KeepsOthers W _).trans (KeepsOthers.of_grownBy hg7 (fun j o hj ho => HOw.out.isCells hj ho))
          have hKp : Kept (fun b => b = w.heap.size + 1 + 1 ∨ w.heap.size + 4 ≤ b) W w7 := (Kept.of_below _ HBm14.out).grown hg7 (fun k hk => .inl (.inr (H2.out.block k hk).1))
          have hBw : Below w.heap.size w w7 := bgrown (bthen H4.out HBm14.out H4.out.size) hg7 HOw.out (by omega) (by have q1 := HBm14.out.size; have q2 := H5.out; omega)
          have hsz7 : w.heap.size + 4 ≤ w7.heap.size := by have q1 := HBm14.out.size; have q2 := hg7.size; have q3 := H5.out; omega
          have hset := hown7.setLast hrd
          rw [HLn.out] at hset
          have hO9 := (((hO7.far (p := ⟨g7, pre.length * 3, none⟩) ng2 (.int .i64 (mirT xk).rule)).far (p := ⟨g7, pre.length * 3 + 1, none⟩) ng2 (.int .i64 (mirT xk).term)).far (p := ⟨g7, pre.length * 3 + 2, none⟩) ng2 (.slice A5 (mirT xk).kids.length d5)).set_ 2 (.slice (some ⟨g7, 0, none⟩) (pre.length + 1) c7)
          have hR9 := (((hR7.far (p := ⟨g7, pre.length * 3, none⟩) (by show w.heap.size + 1 ≠ g7; omega) (.int .i64 (mirT xk).rule)).far (p := ⟨g7, pre.length * 3 + 1, none⟩) (by show w.heap.size + 1 ≠ g7; omega) (.int .i64 (mirT xk).term)).far (p := ⟨g7, pre.length * 3 + 2, none⟩) (by show w.heap.size + 1 ≠ g7; omega) (.slice A5 (mirT xk).kids.length d5)).far (p := ⟨w.heap.size + 1 + 1, 2, none⟩) (by show w.heap.size + 1 ≠ w.heap.size + 1 + 1; omega) (.slice (some ⟨g7, 0, none⟩) (pre.length + 1) c7)
          refine ⟨((((hKE.trans (KeepsOthers.setCell _ _ _)).trans (KeepsOthers.setCell _ _ _)).trans (KeepsOthers.setCell _ _ _)).trans (KeepsOthers.setCell _ _ _)).from _, (((hKp.setCell (p := ⟨g7, pre.length * 3, none⟩) (.inl (.inr hg0)) _).setCell (p := ⟨g7, pre.length * 3 + 1, none⟩) (.inl (.inr hg0)) _).setCell (p := ⟨g7, pre.length * 3 + 2, none⟩) (.inl (.inr hg0)) _).setCell (p := ⟨w.heap.size + 1 + 1, 2, none⟩) (.inl (.inl rfl)) _, ⟨(.slice (some ⟨g7, 0, none⟩) (pre.length + 1) c7), hO9, ?_⟩, hR9, by simpa [World.setCell] using hsz7, (((hBw.setCell (p := ⟨g7, pre.length * 3, none⟩) (by show w.heap.size ≤ g7; omega) _).setCell (p := ⟨g7, pre.length * 3 + 1, none⟩) (by show w.heap.size ≤ g7; omega) _).setCell (p := ⟨g7, pre.length * 3 + 2, none⟩) (by show w.heap.size ≤ g7; omega) _).setCell (p := ⟨w.heap.size + 1 + 1, 2, none⟩) (by show w.heap.size ≤ w.heap.size + 1 + 1; omega) _⟩
          rw [mirP_snoc]
          exact hset.setCell (p := ⟨w.heap.size + 1 + 1, 2, none⟩) (fun e => ng (Option.some.inj e)) (fun h => h.elim id (fun h => by have q : w.heap.size + 4 ≤ w.heap.size + 1 + 1 := h; omega)) _
        case sndbhta =>
          go_simp
          refine hK.out _ _ ?hbhtaz10 (fun hHeld => ?rbhtaz10)
          case hbhtaz10 => ((try dsimp only); go_keep)
          clear hK Kq
          try simp only [Act.put, List.setIfInBounds_toArray, List.set_cons_zero, List.set_cons_succ]
          refine take_call (i := 8) rfl (by kernel_rfl) (by rfl) (fun Kq hK => ?_)
          go_simp
          refine hK.out _ _ ?hbhtaz8 (fun hHeld => ?rbhtaz8)
          case hbhtaz8 => ((try dsimp only); go_keep)
          clear hK Kq
          try simp only [Act.put, List.setIfInBounds_toArray, List.set_cons_zero, List.set_cons_succ]
          refine wpAnyH_done (by kernel_rfl) ?_ _
          obtain ⟨hown7, hg7, hO7, hR7⟩ := H7.out
          have hg0 := HG.out.1
          have hrd : Dat.rd w7 (OwnT (fun _ => False) (w.heap.size + 4) (.slice (some ⟨g7, 0, none⟩) (pre.length + 1) c7) w7) (mirT xk) [.int .i64 (mirT xk).rule, .int .i64 (mirT xk).term, .slice A5 (mirT xk).kids.length d5] := rd_tree.2 ⟨_, rfl, HQ.out.1, HQ.out.2.1, Vl.of_slice rfl HQ.out.2.2.1 HQ.out.2.2.2 ((HCm14.out.kept (Kept.of_grown (X := fun b => (Value.slice Av pre.length cv).ownBlock = some b) hg7 (fun k hk => hk)) (fun b hb hk => by have q1 := (H2.out.block b hk).2; have q2 := hb.1; omega)).keep (fun _ _ _ => rfl) (fun b hb => ⟨.inr (by have q1 := hb.1; have q2 := H5.out; omega), fun e => HA7.out b hb.1 hb.2 e, by have q1 := hb.2; have q2 := hg7.size; omega⟩))⟩
          have hKE : KeepsOthers W w7 := (⟨HBm14.out.size, fun k o hk _ => (HBm14.out.block k (Array.getElem?_eq_some_iff.1 hk).1).trans hk⟩ : KeepsOthers W _).trans (KeepsOthers.of_grownBy hg7 (fun j o hj ho => HOw.out.isCells hj ho))
          have hKp : Kept (fun b => b = w.heap.size + 1 + 1 ∨ w.heap.size + 4 ≤ b) W w7 := (Kept.of_below _ HBm14.out).grown hg7 (fun k hk => .inl (.inr (H2.out.block k hk).1))
          have hBw : Below w.heap.size w w7 := bgrown (bthen H4.out HBm14.out H4.out.size) hg7 HOw.out (by omega) (by have q1 := HBm14.out.size; have q2 := H5.out; omega)
          have hsz7 : w.heap.size + 4 ≤ w7.heap.size := by have q1 := HBm14.out.size; have q2 := hg7.size; have q3 := H5.out; omega
          have hown8 := hown7.setCell (p := ⟨w.heap.size + 1 + 1, 2, none⟩) (fun e => ng (Option.some.inj e)) (fun h => h.elim id (fun h => by have q : w.heap.size + 4 ≤ w.heap.size + 1 + 1 := h; omega)) (.slice (some ⟨g7, 0, none⟩) (pre.length + 1) c7)
          have hk8 : Kept (fun b => b = w.heap.size + 1 + 1) w7 (w7.setCell ⟨w.heap.size + 1 + 1, 2, none⟩ (.slice (some ⟨g7, 0, none⟩) (pre.length + 1) c7)) := (Kept.refl (fun b => b = w.heap.size + 1 + 1) w7).setCell (p := ⟨w.heap.size + 1 + 1, 2, none⟩) (.inl rfl) _
          have hset := hown8.setLast (Dat.keep (fun p hp hlt => hk8.cell hlt (fun e => hp.1.elim id (fun h => by have q : w.heap.size + 4 ≤ p.block := h; omega))) (fun b hb => ⟨hb.1, hb.2.1, Nat.lt_of_lt_of_le hb.2.2 hk8.size⟩) hrd)
          rw [HLn.out] at hset
          have hO9 := (((hO7.set_ 2 (.slice (some ⟨g7, 0, none⟩) (pre.length + 1) c7)).far (p := ⟨g7, pre.length * 3, none⟩) ng2 (.int .i64 (mirT xk).rule)).far (p := ⟨g7, pre.length * 3 + 1, none⟩) ng2 (.int .i64 (mirT xk).term)).far (p := ⟨g7, pre.length * 3 + 2, none⟩) ng2 (.slice A5 (mirT xk).kids.length d5)
          have hR9 := (((hR7.far (p := ⟨w.heap.size + 1 + 1, 2, none⟩) (by show w.heap.size + 1 ≠ w.heap.size + 1 + 1; omega) (.slice (some ⟨g7, 0, none⟩) (pre.length + 1) c7)).far (p := ⟨g7, pre.length * 3, none⟩) (by show w.heap.size + 1 ≠ g7; omega) (.int .i64 (mirT xk).rule)).far (p := ⟨g7, pre.length * 3 + 1, none⟩) (by show w.heap.size + 1 ≠ g7; omega) (.int .i64 (mirT xk).term)).far (p := ⟨g7, pre.length * 3 + 2, none⟩) (by show w.heap.size + 1 ≠ g7; omega) (.slice A5 (mirT xk).kids.length d5)
          refine ⟨((((hKE.trans (KeepsOthers.setCell _ _ _)).trans (KeepsOthers.setCell _ _ _)).trans (KeepsOthers.setCell _ _ _)).trans (KeepsOthers.setCell _ _ _)).from _, (((hKp.setCell (p := ⟨w.heap.size + 1 + 1, 2, none⟩) (.inl (.inl rfl)) _).setCell (p := ⟨g7, pre.length * 3, none⟩) (.inl (.inr hg0)) _).setCell (p := ⟨g7, pre.length * 3 + 1, none⟩) (.inl (.inr hg0)) _).setCell (p := ⟨g7, pre.length * 3 + 2, none⟩) (.inl (.inr hg0)) _, ⟨(.slice (some ⟨g7, 0, none⟩) (pre.length + 1) c7), hO9, ?_⟩, hR9, by simpa [World.setCell] using hsz7, (((hBw.setCell (p := ⟨w.heap.size + 1 + 1, 2, none⟩) (by show w.heap.size ≤ w.heap.size + 1 + 1; omega) _).setCell (p := ⟨g7, pre.length * 3, none⟩) (by show w.heap.size ≤ g7; omega) _).setCell (p := ⟨g7, pre.length * 3 + 1, none⟩) (by show w.heap.size ≤ g7; omega) _).setCell (p := ⟨g7, pre.length * 3 + 2, none⟩) (by show w.heap.size ≤ g7; omega) _⟩
          rw [mirP_snoc]
          exact hset
  case done =>
    rintro D ys W hD rfl ⟨⟨v, h1, h2⟩, h3, h5, h4⟩ hK
    rw [mirP_bwd zs hzs] at h2
    obtain ⟨Av, cv, hv, hc1, hc2, _⟩ := h2.form
    have hrl : ((ks.map mirT).reverse).length = ks.length := by simp
    rw [hrl] at hv hc1
    subst hv
    have HO2 := Lib.hid h2
    have HR2 := Lib.hid h3
    have HB4 := Lib.hid h4
    have o0 : W.cell? ⟨w.heap.size + 1 + 1, 0, none⟩ = some (.int .i64 r) := h1.cell 0
    have o1 : W.cell? ⟨w.heap.size + 1 + 1, 1, none⟩ = some (.int .i64 t) := h1.cell 1
    have o2 : W.cell? ⟨w.heap.size + 1 + 1, 1 + 1, none⟩ = some (.slice Av ks.length cv) := h1.cell 2
    have c0 : W.cell? ⟨w.heap.size + 1, 0, none⟩ = some (.int .i64 0) := h3.cell 0
    have c1 : W.cell? ⟨w.heap.size + 1, 1, none⟩ = some (.int .i64 0) := h3.cell 1
    have c2 : W.cell? ⟨w.heap.size + 1, 1 + 1, none⟩ = some (.slice none 0 0) := h3.cell 2
    have f0 := h3.frozen 0
    have f1 := h3.frozen 1
    have f2 := h3.frozen 2
    have zR := h3.lt
    have zO := h1.lt
    clear h1 h2 h3 h4 hrl hzs hzc hzl hR0 hO0 hK0
    gi_wp2
    have HF := Lib.hid (mirT_eq r t ks)
    obtain ⟨WF, hWF⟩ : ∃ WF, ((W.setCell ⟨w.heap.size + 1, 0, none⟩ (.int .i64 r)).setCell ⟨w.heap.size + 1, 1, none⟩ (.int .i64 t)).setCell ⟨w.heap.size + 1, 2, none⟩ (.slice Av ks.length cv) = WF := ⟨_, rfl⟩
    have hKF : WF.heap[D]? = some (.deferred (some [])) := by rw [← hWF]; exact (((KeepsOthers.setCell _ _ _).trans (KeepsOthers.setCell _ _ _)).trans (KeepsOthers.setCell _ _ _)).same D _ hK rfl
    have hkF : Kept (fun b => b = w.heap.size + 1) W WF := by rw [← hWF]; exact (((Kept.refl (fun b => b = w.heap.size + 1) W).setCell (p := ⟨w.heap.size + 1, 0, none⟩) (.inl rfl) _).setCell (p := ⟨w.heap.size + 1, 1, none⟩) (.inl rfl) _).setCell (p := ⟨w.heap.size + 1, 2, none⟩) (.inl rfl) _
    have hRF : Blk' WF (w.heap.size + 1) 39 #[.int .i64 r, .int .i64 t, .slice Av ks.length cv] := by rw [← hWF]; exact ((HR2.out.set_ 0 _).set_ 1 _).set_ 2 _
    have hOF := HO2.out.kept hkF (fun b (hb : b = w.heap.size + 1) h => h.elim id (fun h => by omega))
    have hBF := HB4.out.trans (hkF.to_below (B := w.heap.size) (fun b (hb : b = w.heap.size + 1) => by omega) HB4.out.size)
    have hcd : ∀ r', some D = some r' → ∃ o : Obj, WF.heap[r']? = some o ∧ o.isCells = false := fun r' e => by cases e; exact ⟨_, hKF, rfl⟩
    have hRG := hRF.turn (grownBy_putObj' WF D (.deferred none)) hcd
    have hOG := hOF.turn (grownBy_putObj' WF D (.deferred none)) hcd
    have hBG := hBF.trans (belowK_b (w := w) (Nat.le_refl _) WF D (.deferred (some [])) (.deferred none) (by omega) hKF rfl rfl)
    rw [hWF]
    clear hWF
    refine ⟨by simp, .inl ⟨_, _, rfl, run_takeDeferred hKF, ?_⟩⟩
    have u0 : (WF.putObj D (.deferred none)).cell? ⟨w.heap.size + 1, 0, none⟩ = some (.int .i64 r) := hRG.cell 0
    have u1 : (WF.putObj D (.deferred none)).cell? ⟨w.heap.size + 1, 1, none⟩ = some (.int .i64 t) := hRG.cell 1
    have u2 : (WF.putObj D (.deferred none)).cell? ⟨w.heap.size + 1, 2, none⟩ = some (.slice Av ks.length cv) := hRG.cell 2
    refine ⟨.agg #[.int .i64 r, .int .i64 t, .slice Av ks.length cv], by simp [results, Tryd.results22, go_sem, u0, u1, u2], ?_⟩
    have hl : (mirT ⟨r, t, ks⟩).kids.length = ks.length := by rw [HF.out]; simp [Tree.kids]
    refine ⟨Av, cv, by rw [hl, HF.out]; rfl, by rw [HF.out]; exact HI.out.1, by rw [HF.out]; exact HI.out.2, by rw [hl]; exact hc1, hc2, ?_, hBG⟩
    rw [HF.out]
    exact hOG.vl.els.2.2.2.keep (fun _ _ _ => rfl) (fun b hb => ⟨by have q := hb.1.resolve_left id; omega, hb.2⟩)
  case stop =>
    rintro D c pre W _ _ h _
    exact h.elim
end Go.Proofs.YtnlpeiffbnlncaaDoor

/- Trees by their kids; the words of kids. No program is named here. -/
namespace Go.Proofs.YtnlpeiffbnlncaaDoor
open Go.RowKit
set_option linter.unusedVariables false

mutual
theorem Tree.ind {P : Tree → Prop} (h : ∀ r t ks, (∀ k ∈ ks, P k) → P ⟨r, t, ks⟩) : ∀ t, P t
  | ⟨r, t, ks⟩ => h r t ks (Tree.inds h ks)
theorem Tree.inds {P : Tree → Prop} (h : ∀ r t ks, (∀ k ∈ ks, P k) → P ⟨r, t, ks⟩) : ∀ ks : List Tree, ∀ k ∈ ks, P k
  | [], k, hk => by simp at hk
  | x :: xs, k, hk => by
    rcases List.mem_cons.1 hk with e | e
    · exact e ▸ Tree.ind h x
    · exact Tree.inds h xs k e
end
theorem yields_take {ks : List Tree} {m : Nat} {k : Tree} (h : ks[m]? = some k) : yields (ks.take (m + 1)) = yields (ks.take m) ++ yieldT k := by
  have e : ∀ (a b : List Tree), yields (a ++ b) = yields a ++ yields b := by
    intro a b
    induction a with
    | nil => rfl
    | cons x a ih => simp only [List.cons_append, yields, ih, List.append_assoc]
  rw [take_snoc h, e]
  simp [yields]
theorem yields_drop (ks : List Tree) (m : Nat) : yields ks = yields (ks.take m) ++ yields (ks.drop m) := by
  have e : ∀ (a b : List Tree), yields (a ++ b) = yields a ++ yields b := by
    intro a b
    induction a with
    | nil => rfl
    | cons x a ih => simp only [List.cons_append, yields, ih, List.append_assoc]
  rw [← e, List.take_append_drop]

end Go.Proofs.YtnlpeiffbnlncaaDoor

/- What gram.Tree computes of a tree: an error number, and how many nodes were visited. No program is named here. -/
namespace Go.Proofs.YtnlpeiffbnlncaaDoor
open Go.RowKit
set_option linter.unusedVariables false

/-- The symbol at the root of a tree. -/
def rootS (g : Gram) : Tree → Sym
  | ⟨r, t, _⟩ => if r < 0 then ⟨true, t⟩ else match g.rules[r.toNat]? with
    | some q => ⟨false, q.left⟩
    | none => ⟨true, t⟩
mutual
/-- The error of a tree, and the number of nodes behind it; n nodes were visited ahead of it. -/
def visitE (g : Gram) : Tree → Int → Int × Int
  | ⟨r, t, ks⟩, n => if 5000 ≤ n then (2, n + 1) else if r = -1 then (if t < 0 ∨ g.terms ≤ t ∨ ks ≠ [] then (3, n + 1) else (0, n + 1)) else if r < 0 then (3, n + 1) else match g.rules[r.toNat]? with
    | none => (3, n + 1)
    | some q => if t ≠ 0 ∨ ks.length ≠ q.right.length then (3, n + 1) else kidsE g ks q.right (n + 1)
def kidsE (g : Gram) : List Tree → List Sym → Int → Int × Int
  | k :: ks, s :: ss, n => if (visitE g k n).1 ≠ 0 then visitE g k n else if rootS g k ≠ s then (3, (visitE g k n).2) else kidsE g ks ss (visitE g k n).2
  | [], _, n => (0, n)
  | _ :: _, [], n => (0, n)
end
def treeE (g : Gram) (t : Tree) : Int := (visitE g t 0).1

mutual
theorem visitE_bd (g : Gram) : ∀ (t : Tree) (n : Int), 0 ≤ n → n ≤ 5000 → 0 ≤ (visitE g t n).2 ∧ (visitE g t n).2 ≤ 5001 ∧ ((visitE g t n).1 = 0 → (visitE g t n).2 ≤ 5000) ∧ 0 ≤ (visitE g t n).1 ∧ (visitE g t n).1 ≤ 3
  | ⟨r, t, ks⟩, n, h0, h1 => by
    unfold visitE
    split
    · exact ⟨by dsimp only; omega, by dsimp only; omega, fun h => by dsimp only at h; omega, by dsimp only; omega, by dsimp only; omega⟩
    split
    · split
      · exact ⟨by dsimp only; omega, by dsimp only; omega, fun h => by dsimp only at h; omega, by dsimp only; omega, by dsimp only; omega⟩
      · exact ⟨by dsimp only; omega, by dsimp only; omega, fun h => by dsimp only; omega, by dsimp only; omega, by dsimp only; omega⟩
    split
    · exact ⟨by dsimp only; omega, by dsimp only; omega, fun h => by dsimp only at h; omega, by dsimp only; omega, by dsimp only; omega⟩
    split
    · exact ⟨by dsimp only; omega, by dsimp only; omega, fun h => by dsimp only at h; omega, by dsimp only; omega, by dsimp only; omega⟩
    split
    · exact ⟨by dsimp only; omega, by dsimp only; omega, fun h => by dsimp only at h; omega, by dsimp only; omega, by dsimp only; omega⟩
    · exact kidsE_bd g ks _ (n + 1) (by omega) (by omega)
theorem kidsE_bd (g : Gram) : ∀ (ks : List Tree) (ss : List Sym) (n : Int), 0 ≤ n → n ≤ 5000 → 0 ≤ (kidsE g ks ss n).2 ∧ (kidsE g ks ss n).2 ≤ 5001 ∧ ((kidsE g ks ss n).1 = 0 → (kidsE g ks ss n).2 ≤ 5000) ∧ 0 ≤ (kidsE g ks ss n).1 ∧ (kidsE g ks ss n).1 ≤ 3
  | [], ss, n, h0, h1 => by
    have e : kidsE g [] ss n = (0, n) := by cases ss <;> rfl
    rw [e]
    exact ⟨h0, by dsimp only; omega, fun _ => h1, by simp, by simp⟩
  | k :: ks, [], n, h0, h1 => by
    have e : kidsE g (k :: ks) [] n = (0, n) := rfl
    rw [e]
    exact ⟨h0, by dsimp only; omega, fun _ => h1, by simp, by simp⟩
  | k :: ks, s :: ss, n, h0, h1 => by
    have hk := visitE_bd g k n h0 h1
    unfold kidsE
    split
    · exact hk
    · rename_i hz
      have hz : (visitE g k n).1 = 0 := by omega
      have h5 := hk.2.2.1 hz
      split
      · exact ⟨hk.1, hk.2.1, fun h => by simp at h, by simp, by simp⟩
      · exact kidsE_bd g ks ss _ hk.1 h5
end
end Go.Proofs.YtnlpeiffbnlncaaDoor

/- Plain: a tree of a grammar is no error. No program is named here. -/
namespace Go.Proofs.YtnlpeiffbnlncaaDoor
open Go.RowKit
set_option linter.unusedVariables false

theorem vtsLenE {g : Gram} : ∀ (ks : List Tree) (ss : List Sym), vts g ks ss → ks.length = ss.length
  | [], [], _ => rfl
  | k :: ks, s :: ss, h => by unfold vts at h; simp [vtsLenE ks ss h.2]
  | [], _ :: _, h => by unfold vts at h; exact h.elim
  | _ :: _, [], h => by unfold vts at h; exact h.elim

mutual
theorem visitE_of {g : Gram} (hs : ∀ q ∈ g.rules, ∀ s ∈ q.right, s.term = true → 0 ≤ s.n ∧ s.n < g.terms) : ∀ (t : Tree) (s : Sym) (n : Int), vt g t s → (s.term = true → 0 ≤ s.n ∧ s.n < g.terms) → 0 ≤ n → n + (nodesT t : Int) ≤ 5000 → visitE g t n = (0, n + (nodesT t : Int)) ∧ rootS g t = s
  | ⟨r, t, ks⟩, ⟨st, sn⟩, n, h, h1, h0, h5 => by
    unfold vt at h
    unfold nodesT at h5 ⊢
    cases st
    · simp only [Bool.false_eq_true, if_false] at h
      obtain ⟨rfl, hr, q, hq, hl, hk⟩ := h
      have h6 := kidsE_of hs ks q.right (n + 1) hk (hs q (List.mem_of_getElem? hq)) (by omega) (by omega)
      constructor
      · rw [visitE, if_neg (by omega), if_neg (by omega), if_neg (by omega), hq]
        dsimp only
        rw [if_neg (by rintro (h | h); exact h rfl; exact h (vtsLenE ks q.right hk)), h6]
        simp; omega
      · unfold rootS
        dsimp only
        rw [if_neg (by omega), hq]
        simp [hl]
    · simp only [if_true] at h
      obtain ⟨rfl, rfl, rfl⟩ := h
      have h2 := h1 rfl
      constructor
      · dsimp only at h2
        rw [visitE, if_neg (by omega), if_pos rfl, if_neg (by rintro (h | h | h); omega; omega; exact h rfl)]
        simp [nodesL]
      · unfold rootS
        dsimp only
        rw [if_pos (by omega)]
theorem kidsE_of {g : Gram} (hs : ∀ q ∈ g.rules, ∀ s ∈ q.right, s.term = true → 0 ≤ s.n ∧ s.n < g.terms) : ∀ (ks : List Tree) (ss : List Sym) (n : Int), vts g ks ss → (∀ s ∈ ss, s.term = true → 0 ≤ s.n ∧ s.n < g.terms) → 0 ≤ n → n + (nodesL ks : Int) ≤ 5000 → kidsE g ks ss n = (0, n + (nodesL ks : Int))
  | [], ss, n, h, _, _, _ => by
    have e : kidsE g [] ss n = (0, n) := by cases ss <;> rfl
    rw [e]; simp [nodesL]
  | k :: ks, s :: ss, n, h, h1, h0, h5 => by
    unfold vts at h
    unfold nodesL at h5 ⊢
    obtain ⟨g1, g2⟩ := visitE_of hs k s n h.1 (h1 s (by simp)) h0 (by omega)
    have g3 := kidsE_of hs ks ss (n + (nodesT k : Int)) h.2 (fun x hx => h1 x (by simp [hx])) (by omega) (by omega)
    unfold kidsE
    rw [g1]
    dsimp only
    rw [if_neg (by simp), if_neg (by simp [g2]), g3]
    simp; omega
  | _ :: _, [], _, h, _, _, _ => by simp [vts] at h
end
theorem treeE_vt {g : Gram} (hs : ∀ q ∈ g.rules, ∀ s ∈ q.right, s.term = true → 0 ≤ s.n ∧ s.n < g.terms) {t : Tree} {a : Int} (h : vt g t ⟨false, a⟩) (hn : nodesT t ≤ 5000) : treeE g t = 0 := by
  unfold treeE
  rw [(visitE_of hs t _ 0 h (fun h => by simp at h) (by omega) (by omega)).1]
end Go.Proofs.YtnlpeiffbnlncaaDoor

