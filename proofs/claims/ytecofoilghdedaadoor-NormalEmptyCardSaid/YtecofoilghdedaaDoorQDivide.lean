/- Contract: (*normal.form).divide: the parts of a rule. -/
import Derived.Test.YtecofoilghdedaaDoorQNormSym
import Derived.Test.YtecofoilghdedaaDoorQp1
namespace Go.Proofs.YtecofoilghdedaaDoor
open Go.RowKit
set_option linter.unusedVariables false

theorem lt_of_own {α : Type} [Dat α] {w : World} {S : Nat → Prop} {B : Nat} {e : TypeId} {v : Value} {xs : List α} (h : Own w S B e v xs) : ∀ k, v.ownBlock = some k → k < w.heap.size := fun k hk => (h.block k hk).2
theorem own_lit {x : Int} (h : I64 x) (w : World) (e : TypeId) : Own (w.alloc (.cells #[.int .i64 x] e)) (fun _ => False) w.heap.size e (.slice (some ⟨w.heap.size, 0, none⟩) 1 1) [x] :=
  have h1 : (w.alloc (.cells #[.int .i64 x] e)).ownsRow w.heap.size e 1 (.slice (some ⟨w.heap.size, 0, none⟩) 1 1) 1 [.int .i64 x] := ⟨rfl, .inr ⟨w.heap.size, 1, _, rfl, Nat.le_refl _, heap_alloc_new w _, Nat.le_refl _, by simp [maxLen], rfl, rfl⟩⟩
  ⟨[[.int .i64 x]], h1, rfl, fun i y cs hi hc => by
    rcases i with _ | i
    · simp at hi hc
      subst hi; subst hc
      exact ⟨rfl, h⟩
    · simp at hi⟩
/-- A row of numbers that the call owns lies in its own block alone. -/
theorem own_ints {w : World} {S : Nat → Prop} {base : Nat} {e : TypeId} {v : Value} {xs : List Int} (h : Own w S base e v xs) : Vl w (fun b => v.ownBlock = some b) xs v := by
  obtain ⟨A, c, rfl, h1, h2, _⟩ := h.form
  refine Vl.of_slice rfl h1 h2 (fun hne => ?_)
  obtain ⟨x, hx⟩ := get_some (show 0 < xs.length from List.length_pos_iff.2 hne)
  obtain ⟨g, c', cs, ev, _, _, _, _⟩ := h.at_ hx
  injection ev with e1 _ _
  subst e1
  refine ⟨g, 0, rfl, rfl, fun k y hk => ?_⟩
  obtain ⟨g', c2, ds, ev, _, _, hrd, hat⟩ := h.at_ hk
  injection ev with e1 _ _
  injection e1 with e1
  injection e1 with e1 _ _
  subst e1
  exact ⟨ds, hrd, by simpa using hat⟩
theorem Vl.own_lt {w : World} {v : Value} {xs : List Int} {x : Int} (h : Vl w (fun b => v.ownBlock = some b) (x :: xs) v) {b : Nat} (hb : v.ownBlock = some b) : b < w.heap.size := by
  obtain ⟨A, c, rfl, _, _, hE⟩ := h.slice
  obtain ⟨g, o, cs, rfl, hg, hlt, _⟩ := hE.at_ (k := 0) (x := x) rfl
  injection hb with hb
  subst hb
  exact hlt
theorem symN_i64 {leaf : Nat} {s : Sym} (h1 : leaf ≤ 1000) (h2 : 0 ≤ s.n ∧ s.n ≤ 1000) : I64 (symN leaf s) := by
  unfold symN
  split <;> exact ⟨by omega, by omega⟩
/-- The loop over the parts of a long rule. -/
def DvL (leaf P H : Nat) (F : Value → Array Value) (q : Rule) (i : Nat) (y : List Int) (B : Nat) (ps : List Part) (w1 : World) (l t : Value) (wr : World) : Prop :=
  ∃ (k : Nat) (vk : Value) (lv : Int), k + 1 ≤ q.right.length ∧ l = .int .i64 lv ∧ t = .int .i64 k ∧ I64 lv ∧ (k + 1 < q.right.length → lv = if k = 0 then q.left else y.getD (k - 1) 0) ∧ Blk' wr P 111 (F vk) ∧ Own wr (fun _ => False) B 169 vk (ps ++ cutL leaf i q y k) ∧ Kept (fun b => b = P ∨ (B ≤ b ∧ b < H)) w1 wr ∧ (∀ g, vk.ownBlock = some g → g < H ∨ w1.heap.size ≤ g)
/-- The loop over the symbols of a short rule. -/
def DvS (leaf Y : Nat) (q : Rule) (i : Nat) (w2 : World) (t : Value) (wr : World) : Prop :=
  ∃ (j : Nat) (v : Value), j ≤ q.right.length ∧ t = .int .i64 j ∧ Blk' wr Y 169 #[.int .i64 q.left, .int .i64 (i : Int), v, .bool true] ∧ Own wr (fun _ => False) (Y + 1) 3 v ((q.right.take j).map (symN leaf)) ∧ Kept (fun b => b = Y) w2 wr

set_option maxRecDepth 100000 in
set_option maxHeartbeats 8000000 in
theorem divide_any (P leaf i B : Nat) (gt gn gs : Int) (rs : List Rule) (A : Option Addr) (c : Nat) (S : Nat → Prop) (rest : List (List Int)) (AR : Option Addr) (cr : Nat) (SR : Nat → Prop) (nn : Int) (vp x8 x9 x10 : Value) (ps : List Part) (q : Rule) (y : List Int) (w : World)
    (hP : Blk' w P 111 #[.int .i64 gt, .int .i64 gn, .int .i64 gs, .slice A rs.length c, .slice AR rest.length cr, .int .i64 (leaf : Int), .int .i64 nn, vp, x8, x9, x10]) (hq : rs[i]? = some q) (hy : rest[i]? = some y) (hyl : y.length = q.right.length - 2) (hrs : rs.length ≤ 32) (hq4 : q.right.length ≤ 4) (hqs : ∀ s ∈ q.right, 0 ≤ s.n ∧ s.n ≤ 1000) (hlf : leaf ≤ 1000)
    (hlc : rs.length ≤ c) (hc : c ≤ 9223372036854775807) (hA : Els w S rs A) (hlr : rest.length ≤ cr) (hcr : cr ≤ 9223372036854775807) (hR : Els w SR rest AR) (hO : Own w (fun _ => False) B 169 vp ps) (hps : ps.length ≤ 1000)
    (hPB : P < B) (hB : B ≤ w.heap.size) (hS : ∀ b, S b → b < B ∧ b ≠ P) (hSR : ∀ b, SR b → b < B ∧ b ≠ P) :
    Calls Tryd.prog 103 #[.pointer (some ⟨P, 0, none⟩), .int .i64 (i : Int)] w fun e w' => e = .returned (.tuple #[]) ∧ ∃ vp', Blk' w' P 111 #[.int .i64 gt, .int .i64 gn, .int .i64 gs, .slice A rs.length c, .slice AR rest.length cr, .int .i64 (leaf : Int), .int .i64 nn, vp', x8, x9, x10] ∧ Own w' (fun _ => False) B 169 vp' (ps ++ npartR leaf i q y) ∧ Kept (fun b => b = P ∨ B ≤ b) w w' := by
  obtain ⟨ql, qr⟩ := q
  obtain ⟨bq, oq, Aq, cq, eA, hSb, hbs, hqi, hrc, hcq, hEr, hc0, hc1⟩ := hA.rule hq
  subst eA
  dsimp only at hqi hrc hcq hEr hc0 hc1 hyl hq4 hqs
  have hil : i < rs.length := (List.getElem?_eq_some_iff.1 hq).1
  have hi0 : (0 : Int) ≤ (i : Int) := by omega
  have hi1 : (i : Int) < (rs.length : Int) := by omega
  have HQS := Lib.hid hqs
  have HO := Lib.hid hO
  have HPZ : Hid (P < B ∧ B ≤ w.heap.size ∧ P < w.heap.size) := Lib.hid ⟨hPB, hB, hP.lt⟩
  have HSS := Lib.hid (And.intro hS hSR)
  have HPw := Lib.hid hP
  have HQI := Lib.hid (And.intro hqi (show I64 (i : Int) from ⟨by omega, by omega⟩))
  obtain ⟨w1, hw1⟩ : ∃ w1 : World, w1 = w.alloc (.cells #[.int .i64 ql, .slice Aq qr.length cq] 52) := ⟨_, rfl⟩
  have HW1 := Lib.hid hw1
  have hb1 : Below w.heap.size w w1 := by rw [hw1]; exact (Below.refl _ _).alloc (Nat.le_refl _) _
  have hX1 : Blk' w1 w.heap.size 52 #[.int .i64 ql, .slice Aq qr.length cq] := by rw [hw1]; exact Blk'.new _ _ _
  have HZ1 : Hid (w1.heap.size = w.heap.size + 1) := Lib.hid (by rw [hw1]; simp)
  have HB1 := Lib.hid hb1
  have HX1 := Lib.hid hX1
  have HE1 := Lib.hid (hEr.below hb1)
  have HRw := Lib.hid hR
  have p3 : w.cell? ⟨P, 3, none⟩ = some (.slice (some ⟨bq, oq, none⟩) rs.length c) := hP.cell 3
  have zP : P < w.heap.size := hP.lt
  clear hb1 hX1 hEr hR hw1 hP hO hA hS hSR hqs hqi
  go_enter Tryd.func103, Tryd.ntmps103
  go_upto_region 1 with (fail)
  rw [← HW1.out]
  have x0 : w1.cell? ⟨w.heap.size, 0, none⟩ = some (.int .i64 ql) := HX1.out.cell 0
  have x1 : w1.cell? ⟨w.heap.size, 1, none⟩ = some (.slice Aq qr.length cq) := HX1.out.cell 1
  have zX : w.heap.size < w1.heap.size := HX1.out.lt
  clear p3 zP hSb hbs hc0 hc1
  by_cases hsh : qr.length < 3
  · have d0 : decide ((qr.length : Int) < 3) = true := decide_eq_true (by omega)
    obtain ⟨w2, hw2⟩ : ∃ w2 : World, w2 = w1.alloc (.cells #[.int .i64 ql, .int .i64 (i : Int), .slice none 0 0, .bool true] 169) := ⟨_, rfl⟩
    have HW2 := Lib.hid hw2
    have hb2 : Below w1.heap.size w1 w2 := by rw [hw2]; exact (Below.refl _ _).alloc (Nat.le_refl _) _
    have HY2 : Hid (Blk' w2 w1.heap.size 169 #[.int .i64 ql, .int .i64 (i : Int), .slice none 0 0, .bool true]) := Lib.hid (by rw [hw2]; exact Blk'.new _ _ _)
    have HZ2 : Hid (w2.heap.size = w1.heap.size + 1) := Lib.hid (by rw [hw2]; simp)
    have HB2 := Lib.hid (bthen HB1.out hb2 HB1.out.size)
    have HE2 := Lib.hid (HE1.out.below hb2)
    have HX2 := Lib.hid (HX1.out.below hb2 HX1.out.lt)
    clear hw2 hb2
    go_upto_region 4 with (fail)
    rw [← HW2.out]
    clear x0 x1 zX
    have x1 : w2.cell? ⟨w.heap.size, 1, none⟩ = some (.slice Aq qr.length cq) := HX2.out.cell 1
    have zX : w.heap.size < w2.heap.size := HX2.out.lt
    clear HW1 HW2
    go_wp2_with fail
    clear x1 zX
    go_loopw [32] (fun t wr => DvS leaf w1.heap.size ⟨ql, qr⟩ i w2 t wr) (fun t _ => qr.length - (intOf t).toNat)
    case atStart => exact ⟨0, _, Nat.zero_le _, rfl, HY2.out, Own.nil _ _ _ _, Kept.refl _ _⟩
    case round =>
      obtain ⟨wo, hwo⟩ : ∃ wo : World, wo = wr := ⟨_, rfl⟩
      subst hwo
      obtain ⟨j, v, hj, rfl, hY, hOj, hK⟩ := hrel
      dsimp only at hj hY hOj
      have HYo := Lib.hid hY
      have HOo := Lib.hid hOj
      have HKo := Lib.hid hK
      clear hY hOj hK
      by_cases hjn : j < qr.length
      · obtain ⟨s, hs⟩ := get_some hjn
        have hEo := (HE2.out.kept HKo.out (fun b hb h => by have := (HSS.out.1 b hb).1; have := HPZ.out; have := HZ1.out; omega))
        obtain ⟨bs, os, rfl, hSs, hbs, hsi, hs0, hs1⟩ := hEo.sym hs
        have HSq := Lib.hid (HQS.out s (List.mem_of_getElem? hs))
        have HSn := Lib.hid hs
        obtain ⟨st, sn⟩ := s
        dsimp only at hs0 hs1 hsi HSq
        obtain ⟨w3, hw3⟩ : ∃ w3 : World, w3 = wo.alloc (.cells #[.bool st, .int .i64 sn] 49) := ⟨_, rfl⟩
        have HW3 := Lib.hid hw3
        have hb3 : Below wo.heap.size wo w3 := by rw [hw3]; exact (Below.refl _ _).alloc (Nat.le_refl _) _
        have hZ3 : Blk' w3 wo.heap.size 49 #[.bool st, .int .i64 sn] := by rw [hw3]; exact Blk'.new _ _ _
        have HB3 := Lib.hid hb3
        have HZ3 := Lib.hid hZ3
        have HY3 := Lib.hid (HYo.out.below hb3 HYo.out.lt)
        have HO3 := Lib.hid (HOo.out.below hb3 (Nat.le_refl _))
        have HI := Lib.hid hsi
        have hj0 : (0 : Int) ≤ (j : Int) := by omega
        have hj1 : (j : Int) < (qr.length : Int) := by omega
        clear hw3 hb3 hZ3 hEo hs hsi
        go_upto_region 7 with (fail)
        rw [← HW3.out]
        have y2 : w3.cell? ⟨w1.heap.size, 2, none⟩ = some v := HY3.out.cell 2
        have z0 : w3.cell? ⟨wo.heap.size, 0, none⟩ = some (.bool st) := HZ3.out.cell 0
        have z1 : w3.cell? ⟨wo.heap.size, 1, none⟩ = some (.int .i64 sn) := HZ3.out.cell 1
        have zY : w1.heap.size < w3.heap.size := HY3.out.lt
        have zZ : wo.heap.size < w3.heap.size := HZ3.out.lt
        have HOf := Lib.hid HO3.out.form
        clear hs0 hs1 hbs hSs HW3
        have HP5 : Hid (w3.drew.cell? ⟨P, 5, none⟩ = some (.int .i64 (leaf : Int))) := Lib.hid (by have h := HPw.out.below HB2.out HPZ.out.2.2; have h2 := h.kept HKo.out (by have := HPZ.out; have := HB1.out.size; omega); have h3 := h2.below HB3.out h2.lt; exact h3.cell 5)
        refine wp_region_noPanic ?_
        refine stage_start (S := (fun w' => w'.cell? ⟨w1.heap.size, 2, none⟩ = some v ∧ w'.cell? ⟨wo.heap.size, 0, none⟩ = some (.bool st) ∧ w'.cell? ⟨wo.heap.size, 1, none⟩ = some (.int .i64 sn))) 8 (by kernel_rfl) ?hs (fun hHeld => ?bs)
        case hs => ((try dsimp only); go_keep)
        refine st_pure (i := 0) (v := ?vs0) rfl (by kernel_rfl) (by kernel_rfl) (by kernel_rfl) (by kernel_rfl) (fun _ _ _ h => h) (by rfl) ?ys0 (.inl (by assumption)) ?rs0
        case ys0 => (intro w; go_simp; try with_reducible rfl)
        try simp only [Act.put, List.setIfInBounds_toArray, List.set_cons_zero, List.set_cons_succ]
        refine st_run (i := 1) (v := ?vs1) rfl (by kernel_rfl) (by kernel_rfl) (by kernel_rfl) (by kernel_rfl) (fun _ _ _ h => h) (by rfl) ?ys1 (by assumption) ?rs1
        case ys1 => (intro w hSw; (try dsimp only at hSw); go_simp; try with_reducible rfl)
        try simp only [Act.put, List.setIfInBounds_toArray, List.set_cons_zero, List.set_cons_succ]
        refine st_pure (i := 2) (v := ?vs2) rfl (by kernel_rfl) (by kernel_rfl) (by kernel_rfl) (by kernel_rfl) (fun _ _ _ h => h) (by rfl) ?ys2 (.inl (by assumption)) ?rs2
        case ys2 => (intro w; go_simp; try with_reducible rfl)
        try simp only [Act.put, List.setIfInBounds_toArray, List.set_cons_zero, List.set_cons_succ]
        refine st_run (i := 3) (v := ?vs3) rfl (by kernel_rfl) (by kernel_rfl) (by kernel_rfl) (by kernel_rfl) (fun _ _ _ h => h) (by rfl) ?ys3 (by assumption) ?rs3
        case ys3 => (intro w hSw; (try dsimp only at hSw); go_simp; try with_reducible rfl)
        try simp only [Act.put, List.setIfInBounds_toArray, List.set_cons_zero, List.set_cons_succ]
        refine st_one (i := 4) rfl (by kernel_rfl) (by rfl) (fun Kq hK => ?_)
        go_simp
        go_at_call 146
        refine (symbol_any P leaf ⟨st, sn⟩ _ (by have := HPZ.out; have := HB2.out.size; have := HKo.out.size; show P < w3.heap.size; omega) ?hl hlf HSq.out).mono ?_
        case hl => exact HP5.out
        rintro e w4 ⟨rfl, hb4⟩
        have HB4 := Lib.hid (bundrew hb4)
        have zY4 : w1.heap.size < w4.heap.size := Nat.lt_of_lt_of_le zY HB4.out.size
        have zZ4 : wo.heap.size < w4.heap.size := Nat.lt_of_lt_of_le zZ HB4.out.size
        clear hb4
        have y2a : w4.cell? ⟨w1.heap.size, 2, none⟩ = some v := (⟨HB4.out.cell (p := ⟨w1.heap.size, 2, none⟩) zY, HB4.out.cell (p := ⟨wo.heap.size, 0, none⟩) zZ, HB4.out.cell (p := ⟨wo.heap.size, 1, none⟩) zZ⟩ : _ ∧ _ ∧ _).1.trans y2
        have z0a : w4.cell? ⟨wo.heap.size, 0, none⟩ = some (.bool st) := (⟨HB4.out.cell (p := ⟨w1.heap.size, 2, none⟩) zY, HB4.out.cell (p := ⟨wo.heap.size, 0, none⟩) zZ, HB4.out.cell (p := ⟨wo.heap.size, 1, none⟩) zZ⟩ : _ ∧ _ ∧ _).2.1.trans z0
        have z1a : w4.cell? ⟨wo.heap.size, 1, none⟩ = some (.int .i64 sn) := (⟨HB4.out.cell (p := ⟨w1.heap.size, 2, none⟩) zY, HB4.out.cell (p := ⟨wo.heap.size, 0, none⟩) zZ, HB4.out.cell (p := ⟨wo.heap.size, 1, none⟩) zZ⟩ : _ ∧ _ ∧ _).2.2.trans z1
        refine hK.out _ _ ?hs4 (fun hHeld => ?rs4)
        case hs4 => ((try dsimp only); go_keep)
        clear hK Kq
        try simp only [Act.put, List.setIfInBounds_toArray, List.set_cons_zero, List.set_cons_succ]
        refine st_one (i := 5) rfl (by kernel_rfl) (by rfl) (fun Kq hK => ?_)
        obtain ⟨sv, hsv⟩ : ∃ sv, sv = symN leaf ⟨st, sn⟩ := ⟨_, rfl⟩
        rw [← hsv]
        have HI64 : Hid (I64 sv) := Lib.hid (by have h := HSq.out; rw [hsv]; unfold symN; split <;> exact ⟨by dsimp only at *; omega, by dsimp only at *; omega⟩)
        have HSV := Lib.hid hsv
        clear hsv
        go_simp
        refine hK.out _ _ ?hs5 (fun hHeld => ?rs5)
        case hs5 => ((try dsimp only); go_keep)
        clear hK Kq
        try simp only [Act.put, List.setIfInBounds_toArray, List.set_cons_zero, List.set_cons_succ]
        refine st_one (i := 6) rfl (by kernel_rfl) (by rfl) (fun Kq hK => ?_)
        refine wp_own1 _ _ _ elemInt rfl rfl ((HO3.out.below HB4.out (Nat.le_refl _)).alloc (.cells #[.int .i64 sv] 3)) sv [.int .i64 sv] rfl (At.new w4 [.int .i64 sv] 3) ⟨rfl, HI64.out⟩ (by simp; omega) (by simp; omega) (by simp; omega) ?_
        intro v' w5 hO5 hg5 hat5
        obtain ⟨Av, cv, ev, _, _, _⟩ := hO5.form
        obtain ⟨nv, hnv⟩ : ∃ nv, nv = ((qr.take j).map (symN leaf) ++ [sv]).length := ⟨_, rfl⟩
        rw [← hnv] at ev
        subst ev
        clear hnv
        have HO5 := Lib.hid hO5
        have HG5 := Lib.hid hg5
        have hneY : ∀ k, v.ownBlock = some k → w1.heap.size + 1 ≤ k ∧ k < wo.heap.size := fun k hk => ⟨(HOo.out.block k hk).1, (HOo.out.block k hk).2⟩
        have hKg : Kept (fun k => v.ownBlock = some k) (w4.alloc (.cells #[.int .i64 sv] 3)) w5 := Kept.of_grown (X := fun k => v.ownBlock = some k) hg5 (fun k hk => hk)
        have HY5 := Lib.hid (((HY3.out.below HB4.out HY3.out.lt).alloc (.cells #[.int .i64 sv] 3)).kept hKg (fun h => by have := (hneY _ h).1; omega))
        have HZ5 := Lib.hid (((HZ3.out.below HB4.out HZ3.out.lt).alloc (.cells #[.int .i64 sv] 3)).kept hKg (fun h => by have := (hneY _ h).2; omega))
        have HNY := Lib.hid hneY
        have y2b : w5.cell? ⟨w1.heap.size, 2, none⟩ = some v := HY5.out.cell 2
        have fy2 := HY5.out.frozen 2
        have z0b : w5.cell? ⟨wo.heap.size, 0, none⟩ = some (.bool st) := HZ5.out.cell 0
        have z1b : w5.cell? ⟨wo.heap.size, 1, none⟩ = some (.int .i64 sn) := HZ5.out.cell 1
        have zY5 : w1.heap.size < w5.heap.size := HY5.out.lt
        have zZ5 : wo.heap.size < w5.heap.size := HZ5.out.lt
        clear hO5 hg5 hat5 hneY hKg
        refine hK.out _ _ ?hs6 (fun hHeld => ?rs6)
        case hs6 => ((try dsimp only); go_keep)
        clear hK Kq
        try simp only [Act.put, List.setIfInBounds_toArray, List.set_cons_zero, List.set_cons_succ]
        refine st_pure (i := 7) (v := ?vs7) rfl (by kernel_rfl) (by kernel_rfl) (by kernel_rfl) (by kernel_rfl) (fun _ _ _ h => h) (by rfl) ?ys7 (.inl (by assumption)) ?rs7
        case ys7 => (intro w; go_simp; try with_reducible rfl)
        try simp only [Act.put, List.setIfInBounds_toArray, List.set_cons_zero, List.set_cons_succ]
        refine st_late (i := 8) rfl (by kernel_rfl) (by rfl) (by kernel_rfl) (fun Kq hK => ?_)
        go_simp
        refine hK.out _ _ ?_
        clear hK Kq
        try simp only [Act.put, List.setIfInBounds_toArray, List.set_cons_zero, List.set_cons_succ]
        refine wpAnyD_done (by kernel_rfl) ?_ _
        refine NoPanic.normal ?_
        go_wp2_with fail
        go_roundw
        case rel =>
          have hO5 := HO5.out.setCell (p := ⟨w1.heap.size, 2, none⟩) (fun h => by have := (HO5.out.block _ h).1; dsimp only at this; omega) (fun h => by rcases h with h | h; exact h; dsimp only at h; omega) (.slice Av nv cv)
          rw [HSV.out, ← List.map_singleton (f := symN leaf), ← List.map_append, ← take_snoc HSn.out] at hO5
          have hK5 := ((((HKo.out.below HB3.out).below HB4.out).alloc (.cells #[.int .i64 sv] 3)).grown HG5.out (fun k hk => .inr (by have := (HNY.out k hk).1; have := HZ2.out; omega))).setCell (p := ⟨w1.heap.size, 2, none⟩) (.inl rfl) (.slice Av nv cv)
          exact ⟨j + 1, _, hjn, by go_num, HY5.out.set_ 2 (.slice Av nv cv), hO5, hK5⟩
        case measure => simp [intOf]; omega
      · have hjl : j = qr.length := by omega
        have HL : Hid ((qr.take j).map (symN leaf) = qr.map (symN leaf)) := Lib.hid (congrArg (List.map (symN leaf)) (List.take_of_length_le (by omega)))
        have HPt : Hid (npartR leaf i ⟨ql, qr⟩ y = [⟨ql, (i : Int), qr.map (symN leaf), true⟩]) := Lib.hid (if_pos hsh)
        rw [HL.out] at HOo
        clear HL
        obtain ⟨Av, cv, ev, _, _, _⟩ := HOo.out.form
        obtain ⟨nv, hnv⟩ : ∃ nv, nv = (qr.map (symN leaf)).length := ⟨_, rfl⟩
        rw [← hnv] at ev
        subst ev
        obtain ⟨Ap, cp, ev, _, _, _⟩ := HO.out.form
        subst ev
        have HBo : Hid (Below w.heap.size w wo) := Lib.hid (HB2.out.trans (HKo.out.to_below (B := w.heap.size) (fun b (hb : b = w1.heap.size) => by have := HZ1.out; omega) HB2.out.size))
        have HPo := Lib.hid (HPw.out.below HBo.out HPZ.out.2.2)
        have HOp := Lib.hid (HO.out.below HBo.out (Nat.le_refl _))
        have p7 : wo.cell? ⟨P, 7, none⟩ = some (.slice Ap ps.length cp) := HPo.out.cell 7
        have y0 : wo.cell? ⟨w1.heap.size, 0, none⟩ = some (.int .i64 ql) := HYo.out.cell 0
        have y1 : wo.cell? ⟨w1.heap.size, 1, none⟩ = some (.int .i64 (i : Int)) := HYo.out.cell 1
        have y2 : wo.cell? ⟨w1.heap.size, 2, none⟩ = some (.slice Av nv cv) := HYo.out.cell 2
        have y3 : wo.cell? ⟨w1.heap.size, 3, none⟩ = some (.bool true) := HYo.out.cell 3
        have zP : P < wo.heap.size := HPo.out.lt
        have zY : w1.heap.size < wo.heap.size := HYo.out.lt
        have HVl : Hid (Vl (wo.drew.alloc (.cells #[.int .i64 ql, .int .i64 (i : Int), .slice Av nv cv, .bool true] 169)) (OwnT (fun _ => False) B (.slice Ap ps.length cp) (wo.drew.alloc (.cells #[.int .i64 ql, .int .i64 (i : Int), .slice Av nv cv, .bool true] 169))) (qr.map (symN leaf)) (.slice Av nv cv)) := Lib.hid (HOo.out.vl.keep (fun p _ hp => (((Below.refl wo.heap.size wo).drew).alloc (Nat.le_refl _) (.cells #[.int .i64 ql, .int .i64 (i : Int), .slice Av nv cv, .bool true] 169)).cell hp) (fun b hb => ⟨.inr (by have h1 := hb.1.resolve_left id; have := HPZ.out; have := HZ1.out; omega), fun h => by have h1 := hb.1.resolve_left id; have h2 := (HO.out.block _ h).2; have := HZ1.out; omega, by have h1 : b < wo.heap.size := hb.2; simp; omega⟩))
        clear hnv hj d0
        have e0 : ¬ (j : Int) < (qr.length : Int) := by omega
        go_wp2_with fail
        refine wp_region_noPanic ?_
        refine stage_start (S := (fun w' => w'.cell? ⟨P, 7, none⟩ = some (.slice Ap ps.length cp) ∧ w'.cell? ⟨w1.heap.size, 0, none⟩ = some (.int .i64 ql) ∧ w'.cell? ⟨w1.heap.size, 1, none⟩ = some (.int .i64 (i : Int)) ∧ w'.cell? ⟨w1.heap.size, 2, none⟩ = some (.slice Av nv cv) ∧ w'.cell? ⟨w1.heap.size, 3, none⟩ = some (.bool true))) 10 (by kernel_rfl) ?ht (fun hHeld => ?bt)
        case ht => ((try dsimp only); go_keep)
        refine st_pure (i := 0) (v := ?vt0) rfl (by kernel_rfl) (by kernel_rfl) (by kernel_rfl) (by kernel_rfl) (fun _ _ _ h => h) (by rfl) ?yt0 (.inl (by assumption)) ?rt0
        case yt0 => (intro w; go_simp; try with_reducible rfl)
        try simp only [Act.put, List.setIfInBounds_toArray, List.set_cons_zero, List.set_cons_succ]
        refine st_pure (i := 1) (v := ?vt1) rfl (by kernel_rfl) (by kernel_rfl) (by kernel_rfl) (by kernel_rfl) (fun _ _ _ h => h) (by rfl) ?yt1 (.inl (by assumption)) ?rt1
        case yt1 => (intro w; go_simp; try with_reducible rfl)
        try simp only [Act.put, List.setIfInBounds_toArray, List.set_cons_zero, List.set_cons_succ]
        refine st_pure (i := 2) (v := ?vt2) rfl (by kernel_rfl) (by kernel_rfl) (by kernel_rfl) (by kernel_rfl) (fun _ _ _ h => h) (by rfl) ?yt2 (.inl (by assumption)) ?rt2
        case yt2 => (intro w; go_simp; try with_reducible rfl)
        try simp only [Act.put, List.setIfInBounds_toArray, List.set_cons_zero, List.set_cons_succ]
        refine st_pure (i := 3) (v := ?vt3) rfl (by kernel_rfl) (by kernel_rfl) (by kernel_rfl) (by kernel_rfl) (fun _ _ _ h => h) (by rfl) ?yt3 (.inl (by assumption)) ?rt3
        case yt3 => (intro w; go_simp; try with_reducible rfl)
        try simp only [Act.put, List.setIfInBounds_toArray, List.set_cons_zero, List.set_cons_succ]
        refine st_run (i := 4) (v := ?vt4) rfl (by kernel_rfl) (by kernel_rfl) (by kernel_rfl) (by kernel_rfl) (fun _ _ _ h => h) (by rfl) ?yt4 (by assumption) ?rt4
        case yt4 => (intro w hSw; (try dsimp only at hSw); go_simp; try with_reducible rfl)
        try simp only [Act.put, List.setIfInBounds_toArray, List.set_cons_zero, List.set_cons_succ]
        refine st_run (i := 5) (v := ?vt5) rfl (by kernel_rfl) (by kernel_rfl) (by kernel_rfl) (by kernel_rfl) (fun _ _ _ h => h) (by rfl) ?yt5 (by assumption) ?rt5
        case yt5 => (intro w hSw; (try dsimp only at hSw); go_simp; try with_reducible rfl)
        try simp only [Act.put, List.setIfInBounds_toArray, List.set_cons_zero, List.set_cons_succ]
        refine st_one (i := 6) rfl (by kernel_rfl) (by rfl) (fun Kq hK => ?_)
        go_simp
        refine hK.out _ _ ?ht6 (fun hHeld => ?rt6)
        case ht6 => ((try dsimp only); go_keep)
        clear hK Kq
        try simp only [Act.put, List.setIfInBounds_toArray, List.set_cons_zero, List.set_cons_succ]
        refine st_one (i := 7) rfl (by kernel_rfl) (by rfl) (fun Kq hK => ?_)
        refine wp_own1 _ _ _ elemPart rfl rfl (HOp.out.drew.alloc (.cells #[.int .i64 ql, .int .i64 (i : Int), .slice Av nv cv, .bool true] 169)) (⟨ql, (i : Int), qr.map (symN leaf), true⟩ : Part) [.int .i64 ql, .int .i64 (i : Int), .slice Av nv cv, .bool true] rfl (At.new wo.drew [.int .i64 ql, .int .i64 (i : Int), .slice Av nv cv, .bool true] 169) ⟨_, rfl, HQI.out.1, HQI.out.2, HVl.out⟩ (by omega) (by omega) (by have := HPZ.out; have := HBo.out.size; simp; omega) ?_
        intro v' w5 hO5 hg5 hat5
        obtain ⟨Aw, cw, ev, _, _, _⟩ := hO5.form
        obtain ⟨nw, hnw⟩ : ∃ nw, nw = (ps ++ [(⟨ql, (i : Int), qr.map (symN leaf), true⟩ : Part)]).length := ⟨_, rfl⟩
        rw [← hnw] at ev
        subst ev
        clear hnw
        rw [← HPt.out] at hO5
        have HO5 := Lib.hid hO5
        have hKg : Kept (fun k => B ≤ k ∧ k < w.heap.size) (wo.drew.alloc (.cells #[.int .i64 ql, .int .i64 (i : Int), .slice Av nv cv, .bool true] 169)) w5 := Kept.of_grown (X := fun k => B ≤ k ∧ k < w.heap.size) hg5 (fun k hk => HO.out.block k hk)
        have HKg := Lib.hid hKg
        have HP5 := Lib.hid ((HPo.out.drew.alloc (.cells #[.int .i64 ql, .int .i64 (i : Int), .slice Av nv cv, .bool true] 169)).kept hKg (fun h => by have := HPZ.out; omega))
        have HY5 := Lib.hid ((HYo.out.drew.alloc (.cells #[.int .i64 ql, .int .i64 (i : Int), .slice Av nv cv, .bool true] 169)).kept hKg (fun h => by have := HZ1.out; omega))
        have p7b : w5.cell? ⟨P, 7, none⟩ = some (.slice Ap ps.length cp) := HP5.out.cell 7
        have fp7 := HP5.out.frozen 7
        have zP5 : P < w5.heap.size := HP5.out.lt
        have y0b : w5.cell? ⟨w1.heap.size, 0, none⟩ = some (.int .i64 ql) := HY5.out.cell 0
        have y1b : w5.cell? ⟨w1.heap.size, 1, none⟩ = some (.int .i64 (i : Int)) := HY5.out.cell 1
        have y2b : w5.cell? ⟨w1.heap.size, 2, none⟩ = some (.slice Av nv cv) := HY5.out.cell 2
        have y3b : w5.cell? ⟨w1.heap.size, 3, none⟩ = some (.bool true) := HY5.out.cell 3
        have zY5 : w1.heap.size < w5.heap.size := HY5.out.lt
        clear hO5 hg5 hat5 hKg
        refine hK.out _ _ ?ht7 (fun hHeld => ?rt7)
        case ht7 => ((try dsimp only); go_keep)
        clear hK Kq
        try simp only [Act.put, List.setIfInBounds_toArray, List.set_cons_zero, List.set_cons_succ]
        refine st_pure (i := 8) (v := ?vt8) rfl (by kernel_rfl) (by kernel_rfl) (by kernel_rfl) (by kernel_rfl) (fun _ _ _ h => h) (by rfl) ?yt8 (.inl (by assumption)) ?rt8
        case yt8 => (intro w; go_simp; try with_reducible rfl)
        try simp only [Act.put, List.setIfInBounds_toArray, List.set_cons_zero, List.set_cons_succ]
        refine st_pure (i := 9) (v := ?vt9) rfl (by kernel_rfl) (by kernel_rfl) (by kernel_rfl) (by kernel_rfl) (fun _ _ _ h => h) (by rfl) ?yt9 (.inl (by assumption)) ?rt9
        case yt9 => (intro w; go_simp; try with_reducible rfl)
        try simp only [Act.put, List.setIfInBounds_toArray, List.set_cons_zero, List.set_cons_succ]
        refine st_late (i := 10) rfl (by kernel_rfl) (by rfl) (by kernel_rfl) (fun Kq hK => ?_)
        go_simp
        refine hK.out _ _ ?_
        clear hK Kq
        try simp only [Act.put, List.setIfInBounds_toArray, List.set_cons_zero, List.set_cons_succ]
        refine wpAnyD_done (by kernel_rfl) ?_ _
        refine NoPanic.normal ?_
        go_wp2
        have hO9 := HO5.out.setCell (p := ⟨P, 7, none⟩) (fun h => by have h1 := (HO5.out.block _ h).1; have := HPZ.out; dsimp only at h1; omega) (fun h => by have := HPZ.out; rcases h with h | h; exact h; dsimp only at h; omega) (.slice Aw nw cw)
        have hK9 : Kept (fun b => b = P ∨ B ≤ b) w (w5.setCell ⟨P, 7, none⟩ (.slice Aw nw cw)) := ((((Kept.of_below _ HBo.out).drew.alloc (.cells #[.int .i64 ql, .int .i64 (i : Int), .slice Av nv cv, .bool true] 169)).trans (HKg.out.mono (fun b _ hb => .inr hb.1)))).setCell (p := ⟨P, 7, none⟩) (.inl (.inl rfl)) (.slice Aw nw cw)
        exact bodyPost_ret (v := .tuple #[]) (by simp [results, Tryd.results103, go_sem]) rfl ⟨rfl, _, HP5.out.set_ 7 (.slice Aw nw cw), hO9, hK9⟩
  · have d0 : decide ((qr.length : Int) < 3) = false := decide_eq_false (by omega)
    have hwr1 : IntKind.i64.wrap ((qr.length : Int) - 1) = ((qr.length - 1 : Nat) : Int) := by rw [IntWalk.i64_in _ (by omega)]; omega
    have HO1 := Lib.hid (HO.out.below HB1.out (Nat.le_refl _))
    have HP1 := Lib.hid (HPw.out.below HB1.out HPZ.out.2.2)
    go_wp2_with fail
    clear x0 x1 zX
    go_loopw [9, 59] (fun l t wr => DvL leaf P w.heap.size (fun v => #[.int .i64 gt, .int .i64 gn, .int .i64 gs, .slice (some ⟨bq, oq, none⟩) rs.length c, .slice AR rest.length cr, .int .i64 (leaf : Int), .int .i64 nn, v, x8, x9, x10]) ⟨ql, qr⟩ i y B ps w1 l t wr) (fun _ t _ => (qr.length - 1) - (intOf t).toNat)
    case atStart => exact ⟨0, _, ql, by show 0 + 1 ≤ qr.length; omega, rfl, rfl, HQI.out.1, fun _ => rfl, HP1.out, by rw [show cutL leaf i ⟨ql, qr⟩ y 0 = [] from rfl, List.append_nil]; exact HO1.out, Kept.refl _ _, fun g hg => .inl (HO.out.block g hg).2⟩
    case round =>
      obtain ⟨wo, hwo⟩ : ∃ wo : World, wo = wr := ⟨_, rfl⟩
      subst hwo
      obtain ⟨k, vk, lv, hk, rfl, rfl, hl64, hlv, hPk, hOk, hKk, hat⟩ := hrel
      dsimp only at hk hlv hPk
      have HPk := Lib.hid hPk
      have HOk := Lib.hid hOk
      have HKk := Lib.hid hKk
      have HAt := Lib.hid hat
      have HLv := Lib.hid hlv
      have HL64 := Lib.hid hl64
      clear hPk hOk hKk hat hlv hl64
      by_cases hkn : k + 1 < qr.length
      · have e0 : (k : Int) < ((qr.length - 1 : Nat) : Int) := by omega
        obtain ⟨s, hs⟩ := get_some (show k < qr.length by omega)
        have hEo := HE1.out.kept HKk.out (fun b hb h => by have h1 := HSS.out.1 b hb; rcases h with h | h <;> omega)
        have HEo := Lib.hid hEo
        obtain ⟨bs, os, rfl, hSs, hbs, hsi, hs0, hs1⟩ := hEo.sym hs
        have HSq := Lib.hid (HQS.out s (List.mem_of_getElem? hs))
        have HSn := Lib.hid hs
        have HSb := Lib.hid (And.intro hSs hbs)
        have HXo := Lib.hid (HX1.out.kept HKk.out (fun h => by have := HPZ.out; rcases h with h | h <;> omega))
        have x1 : wo.cell? ⟨w.heap.size, 1, none⟩ = some (.slice (some ⟨bs, os, none⟩) qr.length cq) := HXo.out.cell 1
        have zX : w.heap.size < wo.heap.size := HXo.out.lt
        have k0 : (0 : Int) ≤ (k : Int) := by omega
        have k1 : (k : Int) < (qr.length : Int) := by omega
        clear hEo hs hsi hSs
        go_wp2_with fail
        refine (symbol_any P leaf s wo HPk.out.lt (HPk.out.cell 5) hlf HSq.out).mono ?_
        rintro e w3 ⟨rfl, hb3⟩
        have HB3 := Lib.hid hb3
        obtain ⟨sv, hsv⟩ : ∃ sv, sv = symN leaf s := ⟨_, rfl⟩
        rw [← hsv]
        have HSV := Lib.hid hsv
        have HI64 : Hid (I64 sv) := Lib.hid (by rw [hsv]; exact symN_i64 hlf HSq.out)
        obtain ⟨bk, hbk⟩ : ∃ bk : Bool, ((k : Int) == 0) = bk := ⟨_, rfl⟩
        have HBK : Hid (bk = decide (k = 0)) := Lib.hid (by rw [← hbk]; cases k with | zero => rfl | succ n => (first | (simp; done) | (simp; omega)))
        obtain ⟨w4, hw4⟩ : ∃ w4 : World, w4 = (w3.alloc (.cells #[.int .i64 sv] 3)).alloc (.cells #[.int .i64 lv, .int .i64 (i : Int), .slice (some ⟨w3.heap.size, 0, none⟩) 1 1, .bool bk] 169) := ⟨_, rfl⟩
        have HW4 := Lib.hid hw4
        have hb34 : Below w3.heap.size w3 w4 := by rw [hw4]; exact ((Below.refl _ _).alloc (Nat.le_refl _) _).alloc (by simp) _
        have HB4 : Hid (Below wo.heap.size wo w4) := Lib.hid (hb3.trans (hb34.mono hb3.size))
        obtain ⟨Y, hYe⟩ : ∃ Y, Y = w3.heap.size + 1 := ⟨_, rfl⟩
        have HY4 : Hid (Blk' w4 Y 169 #[.int .i64 lv, .int .i64 (i : Int), .slice (some ⟨w3.heap.size, 0, none⟩) 1 1, .bool bk]) := Lib.hid (by rw [hw4, hYe]; exact Blk'.new' _ _ _ (by simp))
        have HOs : Hid (Own w4 (fun _ => False) w3.heap.size 3 (.slice (some ⟨w3.heap.size, 0, none⟩) 1 1) [sv]) := Lib.hid (by rw [hw4]; exact (own_lit HI64.out w3 3).alloc _)
        have HZ4 : Hid (wo.heap.size ≤ w3.heap.size ∧ Y = w3.heap.size + 1 ∧ w4.heap.size = w3.heap.size + 2) := Lib.hid ⟨hb3.size, hYe, by rw [hw4]; simp⟩
        clear hsv hb3 hw4 hb34 x1 zX hs0 hs1 hbs
        go_upto_region 15 with (fail)
        rw [← hYe, ← HW4.out]
        have HP4 := Lib.hid (HPk.out.below HB4.out HPk.out.lt)
        have HX4 := Lib.hid (HXo.out.below HB4.out HXo.out.lt)
        have HE4 := Lib.hid (HEo.out.below HB4.out)
        have HO4 := Lib.hid (HOk.out.below HB4.out (Nat.le_refl _))
        have hwr2 : IntKind.i64.wrap ((qr.length : Int) - 2) = ((qr.length - 2 : Nat) : Int) := by rw [IntWalk.i64_in _ (by omega)]; omega
        clear hYe HW4 hbk
        by_cases hla : k + 2 = qr.length
        · have e1 : ((k : Int) == ((qr.length - 2 : Nat) : Int)) = true := by simp; omega
          obtain ⟨s', hs'⟩ := get_some (show qr.length - 1 < qr.length by omega)
          obtain ⟨b', o', eb, hSb', hbb', hsi', hs0', hs1'⟩ := HE4.out.sym hs'
          injection eb with eb
          injection eb with eb1 eb2 _
          subst eb1; subst eb2
          have HS2 := Lib.hid (HQS.out s' (List.mem_of_getElem? hs'))
          have HSn' := Lib.hid hs'
          have HSb' := Lib.hid (And.intro (HSS.out.1 _ hSb') hbb')
          obtain ⟨st, sn⟩ := s'
          dsimp only at hs0' hs1'
          have y2 : w4.cell? ⟨Y, 2, none⟩ = some (.slice (some ⟨w3.heap.size, 0, none⟩) 1 1) := HY4.out.cell 2
          have x1 : w4.cell? ⟨w.heap.size, 1, none⟩ = some (.slice (some ⟨bs, os, none⟩) qr.length cq) := HX4.out.cell 1
          have zX : w.heap.size < w4.heap.size := HX4.out.lt
          have zY : Y < w4.heap.size := HY4.out.lt
          have m0 : (0 : Int) ≤ ((qr.length - 1 : Nat) : Int) := by omega
          have m1 : ((qr.length - 1 : Nat) : Int) < (qr.length : Int) := by omega
          have zB : bs < w4.heap.size := hbb'
          clear hs' hSb' hbb' hsi'
          go_upto_region 16 with (fail)
          refine wp_region_noPanic ?_
          refine stage_start (S := (fun w' => w'.cell? ⟨Y, 2, none⟩ = some (.slice (some ⟨w3.heap.size, 0, none⟩) 1 1) ∧ w'.cell? ⟨w.heap.size, 1, none⟩ = some (.slice (some ⟨bs, os, none⟩) qr.length cq) ∧ w'.cell? ⟨bs, os + (qr.length - 1) * 2, none⟩ = some (.bool st) ∧ w'.cell? ⟨bs, os + (qr.length - 1) * 2 + 1, none⟩ = some (.int .i64 sn))) 13 (by kernel_rfl) ?hu (fun hHeld => ?bu)
          case hu => ((try dsimp only); go_keep)
          refine st_pure (i := 0) (v := ?vu0) rfl (by kernel_rfl) (by kernel_rfl) (by kernel_rfl) (by kernel_rfl) (fun _ _ _ h => h) (by rfl) ?yu0 (.inl (by assumption)) ?ru0
          case yu0 => (intro w; go_simp; try with_reducible rfl)
          try simp only [Act.put, List.setIfInBounds_toArray, List.set_cons_zero, List.set_cons_succ]
          refine st_run (i := 1) (v := ?vu1) rfl (by kernel_rfl) (by kernel_rfl) (by kernel_rfl) (by kernel_rfl) (fun _ _ _ h => h) (by rfl) ?yu1 (by assumption) ?ru1
          case yu1 => (intro w hSw; (try dsimp only at hSw); go_simp; try with_reducible rfl)
          try simp only [Act.put, List.setIfInBounds_toArray, List.set_cons_zero, List.set_cons_succ]
          refine st_pure (i := 2) (v := ?vu2) rfl (by kernel_rfl) (by kernel_rfl) (by kernel_rfl) (by kernel_rfl) (fun _ _ _ h => h) (by rfl) ?yu2 (.inl (by assumption)) ?ru2
          case yu2 => (intro w; go_simp; try with_reducible rfl)
          try simp only [Act.put, List.setIfInBounds_toArray, List.set_cons_zero, List.set_cons_succ]
          refine st_pure (i := 3) (v := ?vu3) rfl (by kernel_rfl) (by kernel_rfl) (by kernel_rfl) (by kernel_rfl) (fun _ _ _ h => h) (by rfl) ?yu3 (.inl (by assumption)) ?ru3
          case yu3 => (intro w; go_simp; try with_reducible rfl)
          try simp only [Act.put, List.setIfInBounds_toArray, List.set_cons_zero, List.set_cons_succ]
          refine st_run (i := 4) (v := ?vu4) rfl (by kernel_rfl) (by kernel_rfl) (by kernel_rfl) (by kernel_rfl) (fun _ _ _ h => h) (by rfl) ?yu4 (by assumption) ?ru4
          case yu4 => (intro w hSw; (try dsimp only at hSw); go_simp; try with_reducible rfl)
          try simp only [Act.put, List.setIfInBounds_toArray, List.set_cons_zero, List.set_cons_succ]
          refine st_pure (i := 5) (v := ?vu5) rfl (by kernel_rfl) (by kernel_rfl) (by kernel_rfl) (by kernel_rfl) (fun _ _ _ h => h) (by rfl) ?yu5 (.inl (by assumption)) ?ru5
          case yu5 => (intro w; go_simp; try with_reducible rfl)
          try simp only [Act.put, List.setIfInBounds_toArray, List.set_cons_zero, List.set_cons_succ]
          refine st_pure (i := 6) (v := ?vu6) rfl (by kernel_rfl) (by kernel_rfl) (by kernel_rfl) (by kernel_rfl) (fun _ _ _ h => h) (by rfl) ?yu6 (.inl (by assumption)) ?ru6
          case yu6 => (intro w; go_simp; try with_reducible rfl)
          try simp only [Act.put, List.setIfInBounds_toArray, List.set_cons_zero, List.set_cons_succ]
          refine st_pure (i := 7) (v := ?vu7) rfl (by kernel_rfl) (by kernel_rfl) (by kernel_rfl) (by kernel_rfl) (fun _ _ _ h => h) (by rfl) ?yu7 (.inl (by assumption)) ?ru7
          case yu7 => (intro w; go_simp; try with_reducible rfl)
          try simp only [Act.put, List.setIfInBounds_toArray, List.set_cons_zero, List.set_cons_succ]
          refine st_run (i := 8) (v := ?vu8) rfl (by kernel_rfl) (by kernel_rfl) (by kernel_rfl) (by kernel_rfl) (fun _ _ _ h => h) (by rfl) ?yu8 (by assumption) ?ru8
          case yu8 => (intro w hSw; (try dsimp only at hSw); go_simp; try with_reducible rfl)
          try simp only [Act.put, List.setIfInBounds_toArray, List.set_cons_zero, List.set_cons_succ]
          refine st_one (i := 9) rfl (by kernel_rfl) (by rfl) (fun Kq hK => ?_)
          go_simp
          go_at_call 146
          refine (symbol_any P leaf ⟨st, sn⟩ w4.drew HP4.out.lt (HP4.out.cell 5) hlf HS2.out).mono ?_
          rintro e w5 ⟨rfl, hb5⟩
          have HB5 := Lib.hid (bundrew hb5)
          have hz5 := HB5.out.size
          have y2a : w5.cell? ⟨Y, 2, none⟩ = some (.slice (some ⟨w3.heap.size, 0, none⟩) 1 1) := (HB5.out.cell (p := ⟨Y, 2, none⟩) zY).trans y2
          have x1a : w5.cell? ⟨w.heap.size, 1, none⟩ = some (.slice (some ⟨bs, os, none⟩) qr.length cq) := (HB5.out.cell (p := ⟨w.heap.size, 1, none⟩) zX).trans x1
          have s0a := (HB5.out.cell (p := ⟨bs, os + (qr.length - 1) * 2, none⟩) zB).trans hs0'
          have s1a := (HB5.out.cell (p := ⟨bs, os + (qr.length - 1) * 2 + 1, none⟩) zB).trans hs1'
          have zY5 : Y < w5.heap.size := by omega
          have zX5 : w.heap.size < w5.heap.size := by omega
          have zB5 : bs < w5.heap.size := by omega
          clear hb5 hz5
          refine hK.out _ _ ?hu9 (fun hHeld => ?ru9)
          case hu9 => ((try dsimp only); go_keep)
          clear hK Kq
          try simp only [Act.put, List.setIfInBounds_toArray, List.set_cons_zero, List.set_cons_succ]
          refine st_one (i := 10) rfl (by kernel_rfl) (by rfl) (fun Kq hK => ?_)
          obtain ⟨sv2, hsv2⟩ : ∃ sv2, sv2 = symN leaf ⟨st, sn⟩ := ⟨_, rfl⟩
          rw [← hsv2]
          have HI2 : Hid (I64 sv2) := Lib.hid (by rw [hsv2]; exact symN_i64 hlf HS2.out)
          have HSV2 := Lib.hid hsv2
          clear hsv2
          go_simp
          refine hK.out _ _ ?hu10 (fun hHeld => ?ru10)
          case hu10 => ((try dsimp only); go_keep)
          clear hK Kq
          try simp only [Act.put, List.setIfInBounds_toArray, List.set_cons_zero, List.set_cons_succ]
          refine st_one (i := 11) rfl (by kernel_rfl) (by rfl) (fun Kq hK => ?_)
          refine wp_own1 _ _ _ elemInt rfl rfl ((HOs.out.below HB5.out (Nat.le_refl _)).alloc (.cells #[.int .i64 sv2] 3)) sv2 [.int .i64 sv2] rfl (At.new w5 [.int .i64 sv2] 3) ⟨rfl, HI2.out⟩ (by simp) (by simp) (by have := HZ4.out; have := HB5.out.size; simp; omega) ?_
          intro v' w6 hO6 hg6 hat6
          obtain ⟨Av, cv, ev, _, _, _⟩ := hO6.form
          rw [show ([sv] ++ [sv2]).length = 2 from rfl] at ev
          subst ev
          have hVv := own_ints hO6
          have hne : ∀ g, (Value.slice Av 2 cv).ownBlock = some g → g = w3.heap.size ∨ w5.heap.size ≤ g := fun g hg => by rcases hat6 with h | h <;> rw [h] at hg <;> injection hg with hg; exact .inl hg.symm; exact .inr (by simp at hg; omega)
          have hKg : Kept (fun k => k = w3.heap.size) (w5.alloc (.cells #[.int .i64 sv2] 3)) w6 := Kept.of_grown hg6 (fun k hk => by injection hk with hk; exact hk.symm)
          have HVv := Lib.hid hVv
          have HNe := Lib.hid hne
          have HKg := Lib.hid hKg
          have HB46 : Hid (Kept (fun k => k = w3.heap.size) w4 w6) := Lib.hid (((Kept.of_below _ HB5.out).alloc (.cells #[.int .i64 sv2] 3)).trans hKg)
          have HY6 := Lib.hid (HY4.out.kept HB46.out (by have := HZ4.out; omega))
          have y2b : w6.cell? ⟨Y, 2, none⟩ = some (.slice (some ⟨w3.heap.size, 0, none⟩) 1 1) := HY6.out.cell 2
          have fy2 := HY6.out.frozen 2
          have zY6 : Y < w6.heap.size := HY6.out.lt
          have x1b : w6.cell? ⟨w.heap.size, 1, none⟩ = some (.slice (some ⟨bs, os, none⟩) qr.length cq) := (HB46.out.cell (p := ⟨w.heap.size, 1, none⟩) zX (by have := HZ4.out; have := HXo.out.lt; show ¬ w.heap.size = w3.heap.size; omega)).trans x1
          have zX6 : w.heap.size < w6.heap.size := Nat.lt_of_lt_of_le zX HB46.out.size
          have hbs3 : ¬ bs = w3.heap.size := by have := HSb'.out.1; have := HPZ.out; have := HZ4.out; have := HXo.out.lt; omega
          have s0b := (HB46.out.cell (p := ⟨bs, os + (qr.length - 1) * 2, none⟩) zB hbs3).trans hs0'
          have s1b := (HB46.out.cell (p := ⟨bs, os + (qr.length - 1) * 2 + 1, none⟩) zB hbs3).trans hs1'
          have zB6 : bs < w6.heap.size := Nat.lt_of_lt_of_le zB HB46.out.size
          clear hO6 hg6 hat6 hVv hne hKg hbs3
          refine hK.out _ _ ?hu11 (fun hHeld => ?ru11)
          case hu11 => ((try dsimp only); go_keep)
          clear hK Kq
          try simp only [Act.put, List.setIfInBounds_toArray, List.set_cons_zero, List.set_cons_succ]
          refine st_pure (i := 12) (v := ?vu12) rfl (by kernel_rfl) (by kernel_rfl) (by kernel_rfl) (by kernel_rfl) (fun _ _ _ h => h) (by rfl) ?yu12 (.inl (by assumption)) ?ru12
          case yu12 => (intro w; go_simp; try with_reducible rfl)
          try simp only [Act.put, List.setIfInBounds_toArray, List.set_cons_zero, List.set_cons_succ]
          refine st_late (i := 13) rfl (by kernel_rfl) (by rfl) (by kernel_rfl) (fun Kq hK => ?_)
          go_simp
          refine hK.out _ _ ?_
          clear hK Kq
          try simp only [Act.put, List.setIfInBounds_toArray, List.set_cons_zero, List.set_cons_succ]
          refine wpAnyD_done (by kernel_rfl) ?_ _
          refine NoPanic.normal ?_
          go_wp2_with fail
          obtain ⟨wd, hwd⟩ : ∃ wd : World, wd = w6.setCell ⟨Y, 2, none⟩ (.slice Av 2 cv) := ⟨_, rfl⟩
          have hkY : Kept (fun b => b = Y) w6 wd := by rw [hwd]; exact (Kept.refl (fun b => b = Y) w6).setCell (p := ⟨Y, 2, none⟩) (.inl rfl) _
          have HYd : Hid (Blk' wd Y 169 #[.int .i64 lv, .int .i64 (i : Int), .slice Av 2 cv, .bool bk]) := Lib.hid (by rw [hwd]; exact HY6.out.set_ 2 _)
          have HBd : Hid (Below wo.heap.size wo wd) := Lib.hid (HB4.out.trans (((HB46.out.mono (Y := fun b => wo.heap.size ≤ b) (fun b _ (hb : b = w3.heap.size) => by have := HZ4.out; omega)).trans (hkY.mono (fun b _ (hb : b = Y) => by have := HZ4.out; omega))).to_below (B := wo.heap.size) (fun b hb => hb) HB4.out.size))
          have HVd : Hid (Vl wd (fun b => (Value.slice Av 2 cv).ownBlock = some b) [sv, sv2] (.slice Av 2 cv)) := Lib.hid (HVv.out.kept hkY (fun b hb h => by have h1 := HNe.out b hb; have := HZ4.out; have := HB5.out.size; omega))
          have HPd := Lib.hid (HPk.out.below HBd.out HPk.out.lt)
          have HOd := Lib.hid (HOk.out.below HBd.out (Nat.le_refl _))
          have HWd := Lib.hid hwd
          rw [← hwd]
          have hzd := hkY.size
          have hz46 := HB46.out.size
          have HZd : Hid (w4.heap.size ≤ wd.heap.size ∧ w5.heap.size ≤ w6.heap.size + 0 + w5.heap.size) := Lib.hid ⟨by omega, by omega⟩
          clear y2 y2b fy2 zY6 x1 x1b zX6 s0b s1b zB6 zX zY zB m0 m1 hs0' hs1' y2a x1a s0a s1a zY5 zX5 zB5 hwd hkY hzd hz46
          have p7 : wd.cell? ⟨P, 7, none⟩ = some vk := HPd.out.cell 7
          have y0 : wd.cell? ⟨Y, 0, none⟩ = some (.int .i64 lv) := HYd.out.cell 0
          have y1 : wd.cell? ⟨Y, 1, none⟩ = some (.int .i64 (i : Int)) := HYd.out.cell 1
          have y2 : wd.cell? ⟨Y, 2, none⟩ = some (.slice Av 2 cv) := HYd.out.cell 2
          have y3 : wd.cell? ⟨Y, 3, none⟩ = some (.bool bk) := HYd.out.cell 3
          have zP : P < wd.heap.size := HPd.out.lt
          have zY : Y < wd.heap.size := HYd.out.lt
          have HCut : Hid (cutL leaf i ⟨ql, qr⟩ y k ++ [(⟨lv, (i : Int), [sv, sv2], bk⟩ : Part)] = cutL leaf i ⟨ql, qr⟩ y (k + 1)) := Lib.hid (by have e1 : qr.getD k ⟨false, 0⟩ = s := (by rw [List.getD_eq_getElem?_getD, HSn.out]; rfl); have e2 : qr.getD (k + 1) ⟨false, 0⟩ = (⟨st, sn⟩ : Sym) := (by rw [show k + 1 = qr.length - 1 from by omega, List.getD_eq_getElem?_getD, HSn'.out]; rfl); rw [cutL_snoc, HLv.out hkn, HSV.out, HSV2.out, HBK.out]; dsimp only; rw [if_pos hla, e1, e2])
          have HVl : Hid (Vl (wd.drew.alloc (.cells #[.int .i64 lv, .int .i64 (i : Int), .slice Av 2 cv, .bool bk] 169)) (OwnT (fun _ => False) B vk (wd.drew.alloc (.cells #[.int .i64 lv, .int .i64 (i : Int), .slice Av 2 cv, .bool bk] 169))) [sv, sv2] (.slice Av 2 cv)) := Lib.hid (HVd.out.keep (fun p hp hlt => (((Below.refl wd.heap.size wd).drew).alloc (Nat.le_refl _) (.cells #[.int .i64 lv, .int .i64 (i : Int), .slice Av 2 cv, .bool bk] 169)).cell hlt) (fun b hb => by have h1 := HNe.out b hb; have := HPZ.out; have := HZ4.out; have hz5 := HB5.out.size; have := HZ1.out; have hzk := HKk.out.size; have hzd' := HVd.out.own_lt hb; exact ⟨.inr (by omega), fun h => by have h2 := (HOk.out.block _ h).2; omega, by simp; omega⟩))
          refine wp_region_noPanic ?_
          refine stage_start (S := (fun w' => w'.cell? ⟨P, 7, none⟩ = some vk ∧ w'.cell? ⟨Y, 0, none⟩ = some (.int .i64 lv) ∧ w'.cell? ⟨Y, 1, none⟩ = some (.int .i64 (i : Int)) ∧ w'.cell? ⟨Y, 2, none⟩ = some (.slice Av 2 cv) ∧ w'.cell? ⟨Y, 3, none⟩ = some (.bool bk))) 10 (by kernel_rfl) ?hx (fun hHeld => ?bx)
          case hx => ((try dsimp only); go_keep)
          refine st_pure (i := 0) (v := ?vx0) rfl (by kernel_rfl) (by kernel_rfl) (by kernel_rfl) (by kernel_rfl) (fun _ _ _ h => h) (by rfl) ?yx0 (.inl (by assumption)) ?rx0
          case yx0 => (intro w; go_simp; try with_reducible rfl)
          try simp only [Act.put, List.setIfInBounds_toArray, List.set_cons_zero, List.set_cons_succ]
          refine st_pure (i := 1) (v := ?vx1) rfl (by kernel_rfl) (by kernel_rfl) (by kernel_rfl) (by kernel_rfl) (fun _ _ _ h => h) (by rfl) ?yx1 (.inl (by assumption)) ?rx1
          case yx1 => (intro w; go_simp; try with_reducible rfl)
          try simp only [Act.put, List.setIfInBounds_toArray, List.set_cons_zero, List.set_cons_succ]
          refine st_pure (i := 2) (v := ?vx2) rfl (by kernel_rfl) (by kernel_rfl) (by kernel_rfl) (by kernel_rfl) (fun _ _ _ h => h) (by rfl) ?yx2 (.inl (by assumption)) ?rx2
          case yx2 => (intro w; go_simp; try with_reducible rfl)
          try simp only [Act.put, List.setIfInBounds_toArray, List.set_cons_zero, List.set_cons_succ]
          refine st_pure (i := 3) (v := ?vx3) rfl (by kernel_rfl) (by kernel_rfl) (by kernel_rfl) (by kernel_rfl) (fun _ _ _ h => h) (by rfl) ?yx3 (.inl (by assumption)) ?rx3
          case yx3 => (intro w; go_simp; try with_reducible rfl)
          try simp only [Act.put, List.setIfInBounds_toArray, List.set_cons_zero, List.set_cons_succ]
          refine st_run (i := 4) (v := ?vx4) rfl (by kernel_rfl) (by kernel_rfl) (by kernel_rfl) (by kernel_rfl) (fun _ _ _ h => h) (by rfl) ?yx4 (by assumption) ?rx4
          case yx4 => (intro w hSw; (try dsimp only at hSw); go_simp; try with_reducible rfl)
          try simp only [Act.put, List.setIfInBounds_toArray, List.set_cons_zero, List.set_cons_succ]
          refine st_run (i := 5) (v := ?vx5) rfl (by kernel_rfl) (by kernel_rfl) (by kernel_rfl) (by kernel_rfl) (fun _ _ _ h => h) (by rfl) ?yx5 (by assumption) ?rx5
          case yx5 => (intro w hSw; (try dsimp only at hSw); go_simp; try with_reducible rfl)
          try simp only [Act.put, List.setIfInBounds_toArray, List.set_cons_zero, List.set_cons_succ]
          refine st_one (i := 6) rfl (by kernel_rfl) (by rfl) (fun Kq hK => ?_)
          go_simp
          refine hK.out _ _ ?hx6 (fun hHeld => ?rx6)
          case hx6 => ((try dsimp only); go_keep)
          clear hK Kq
          try simp only [Act.put, List.setIfInBounds_toArray, List.set_cons_zero, List.set_cons_succ]
          refine st_one (i := 7) rfl (by kernel_rfl) (by rfl) (fun Kq hK => ?_)
          refine wp_own1 _ _ _ elemPart rfl rfl (HOd.out.drew.alloc (.cells #[.int .i64 lv, .int .i64 (i : Int), .slice Av 2 cv, .bool bk] 169)) (⟨lv, (i : Int), [sv, sv2], bk⟩ : Part) [.int .i64 lv, .int .i64 (i : Int), .slice Av 2 cv, .bool bk] rfl (At.new wd.drew [.int .i64 lv, .int .i64 (i : Int), .slice Av 2 cv, .bool bk] 169) ⟨_, rfl, HL64.out, HQI.out.2, HVl.out⟩ (by rw [List.length_append, cutL_len]; omega) (by rw [List.length_append, cutL_len]; omega) (by have := HPZ.out; have := HBd.out.size; have := HKk.out.size; have := HZ1.out; simp; omega) ?_
          intro v' w8 hO8 hg8 hat8
          obtain ⟨Aw, cw, ev, _, _, _⟩ := hO8.form
          obtain ⟨nw, hnw⟩ : ∃ nw, nw = (ps ++ cutL leaf i ⟨ql, qr⟩ y k ++ [(⟨lv, (i : Int), [sv, sv2], bk⟩ : Part)]).length := ⟨_, rfl⟩
          rw [← hnw] at ev
          subst ev
          clear hnw
          rw [List.append_assoc, HCut.out] at hO8
          have HO8 := Lib.hid hO8
          have hKg : Kept (fun g => vk.ownBlock = some g) (wd.drew.alloc (.cells #[.int .i64 lv, .int .i64 (i : Int), .slice Av 2 cv, .bool bk] 169)) w8 := Kept.of_grown (X := fun g => vk.ownBlock = some g) hg8 (fun g hk => hk)
          have HKg := Lib.hid hKg
          have HP8 := Lib.hid ((HPd.out.drew.alloc (.cells #[.int .i64 lv, .int .i64 (i : Int), .slice Av 2 cv, .bool bk] 169)).kept hKg (fun h => by have := (HOk.out.block _ h).1; have := HPZ.out; omega))
          have HY8 := Lib.hid ((HYd.out.drew.alloc (.cells #[.int .i64 lv, .int .i64 (i : Int), .slice Av 2 cv, .bool bk] 169)).kept hKg (fun h => by have := (HOk.out.block _ h).2; have := HZ4.out; omega))
          have HA8 : Hid (∀ g, (Value.slice Aw nw cw).ownBlock = some g → g < w.heap.size ∨ w1.heap.size ≤ g) := Lib.hid (fun g hg => by rcases hat8 with h | h; exact HAt.out g (h ▸ hg); rw [h] at hg; injection hg with hg; have := HBd.out.size; have := HKk.out.size; simp at hg; exact .inr (by omega))
          have p7b : w8.cell? ⟨P, 7, none⟩ = some vk := HP8.out.cell 7
          have fp7 := HP8.out.frozen 7
          have zP8 : P < w8.heap.size := HP8.out.lt
          have y0b : w8.cell? ⟨Y, 0, none⟩ = some (.int .i64 lv) := HY8.out.cell 0
          have y1b : w8.cell? ⟨Y, 1, none⟩ = some (.int .i64 (i : Int)) := HY8.out.cell 1
          have y2b : w8.cell? ⟨Y, 2, none⟩ = some (.slice Av 2 cv) := HY8.out.cell 2
          have y3b : w8.cell? ⟨Y, 3, none⟩ = some (.bool bk) := HY8.out.cell 3
          have zY8 : Y < w8.heap.size := HY8.out.lt
          clear hO8 hg8 hat8 hKg
          refine hK.out _ _ ?hx7 (fun hHeld => ?rx7)
          case hx7 => ((try dsimp only); go_keep)
          clear hK Kq
          try simp only [Act.put, List.setIfInBounds_toArray, List.set_cons_zero, List.set_cons_succ]
          refine st_pure (i := 8) (v := ?vx8) rfl (by kernel_rfl) (by kernel_rfl) (by kernel_rfl) (by kernel_rfl) (fun _ _ _ h => h) (by rfl) ?yx8 (.inl (by assumption)) ?rx8
          case yx8 => (intro w; go_simp; try with_reducible rfl)
          try simp only [Act.put, List.setIfInBounds_toArray, List.set_cons_zero, List.set_cons_succ]
          refine st_pure (i := 9) (v := ?vx9) rfl (by kernel_rfl) (by kernel_rfl) (by kernel_rfl) (by kernel_rfl) (fun _ _ _ h => h) (by rfl) ?yx9 (.inl (by assumption)) ?rx9
          case yx9 => (intro w; go_simp; try with_reducible rfl)
          try simp only [Act.put, List.setIfInBounds_toArray, List.set_cons_zero, List.set_cons_succ]
          refine st_late (i := 10) rfl (by kernel_rfl) (by rfl) (by kernel_rfl) (fun Kq hK => ?_)
          go_simp
          refine hK.out _ _ ?_
          clear hK Kq
          try simp only [Act.put, List.setIfInBounds_toArray, List.set_cons_zero, List.set_cons_succ]
          refine wpAnyD_done (by kernel_rfl) ?_ _
          refine NoPanic.normal ?_
          go_wp2_with fail
          go_roundw
          case rel =>
            have hO9 := HO8.out.setCell (p := ⟨P, 7, none⟩) (fun h => by have h1 := (HO8.out.block _ h).1; have := HPZ.out; dsimp only at h1; omega) (fun h => by have := HPZ.out; rcases h with h | h; exact h; dsimp only at h; omega) (.slice Aw nw cw)
            have hK9 : Kept (fun b => b = P ∨ (B ≤ b ∧ b < w.heap.size)) w1 (w8.setCell ⟨P, 7, none⟩ (.slice Aw nw cw)) := by
              refine Kept.setCell ?_ (p := ⟨P, 7, none⟩) (.inl (.inl rfl)) (.slice Aw nw cw)
              exact ((HKk.out.below HBd.out).drew.alloc (.cells #[.int .i64 lv, .int .i64 (i : Int), .slice Av 2 cv, .bool bk] 169)).later HKg.out (fun g hg => by rcases HAt.out g hg with h | h; exact .inl (.inr ⟨(HOk.out.block _ hg).1, h⟩); exact .inr h)
            exact ⟨k + 1, _, lv, hkn, rfl, by go_num, HL64.out, fun h => absurd h (by dsimp only; omega), HP8.out.set_ 7 (.slice Aw nw cw), hO9, hK9, HA8.out⟩
          case measure => simp [intOf]; omega
        · have e1 : ((k : Int) == ((qr.length - 2 : Nat) : Int)) = false := by simp; omega
          have hRo := ((HRw.out.below HB1.out).kept HKk.out (fun b hb h => by have h1 := HSS.out.2 b hb; rcases h with h | h <;> omega)).below HB4.out
          obtain ⟨br, orr, cs, eAR, hSr, hbr, hrd, hcr0⟩ := hRo.at_ hy
          obtain ⟨vy, rfl, hvy⟩ := rd_slice hrd
          obtain ⟨Ay, cy, rfl, hy1, hy2, hEy⟩ := hvy.slice
          subst eAR
          obtain ⟨yk, hyk⟩ := get_some (show k < y.length by omega)
          obtain ⟨by_, oy, es, eAy, hSy, hby, hrdy, hcy⟩ := hEy.at_ hyk
          obtain ⟨rfl, hyk64⟩ := hrdy
          subst eAy
          have HYk := Lib.hid hyk
          have HI2 := Lib.hid hyk64
          have r0 : w4.cell? ⟨br, orr + i, none⟩ = some (.slice (some ⟨by_, oy, none⟩) y.length cy) := by have h := hcr0.c0; simpa [show Dat.size (List Int) = 1 from rfl] using h
          have r1 : w4.cell? ⟨by_, oy + k, none⟩ = some (.int .i64 yk) := by have h := hcy.c0; simpa [show Dat.size Int = 1 from rfl] using h
          have p4 : w4.cell? ⟨P, 4, none⟩ = some (.slice (some ⟨br, orr, none⟩) rest.length cr) := HP4.out.cell 4
          have y2 : w4.cell? ⟨Y, 2, none⟩ = some (.slice (some ⟨w3.heap.size, 0, none⟩) 1 1) := HY4.out.cell 2
          have zP : P < w4.heap.size := HP4.out.lt
          have zY : Y < w4.heap.size := HY4.out.lt
          have hil2 : (i : Int) < (rest.length : Int) := by have := (List.getElem?_eq_some_iff.1 hy).1; omega
          have hkl2 : (k : Int) < (y.length : Int) := by omega
          clear hRo hSr hrd hcr0 hvy hEy hSy hcy hyk hyk64
          obtain ⟨sv2, hsv2⟩ : ∃ sv2, sv2 = yk := ⟨_, rfl⟩
          rw [← hsv2] at HYk HI2 r1
          clear hsv2
          have HB5 : Hid (Below w4.heap.size w4 w4) := Lib.hid (Below.refl _ _)
          obtain ⟨w5, hw5⟩ : ∃ w5 : World, w5 = w4 := ⟨_, rfl⟩
          go_upto_region 18 with (fail)
          go_wp2_with (at_builtin; refine wpList_own1 _ rfl _ _ elemInt rfl rfl (HOs.out.alloc (.cells #[.int .i64 sv2] 3)) sv2 [.int .i64 sv2] rfl (At.new w4 [.int .i64 sv2] 3) ⟨rfl, HI2.out⟩ (by simp) (by simp) (by have := HZ4.out; simp; omega) ?_; intro v' w6 hO6 hg6 hat6; obtain ⟨Av, cv, ev, _, _, _⟩ := hO6.form; rw [show ([sv] ++ [sv2]).length = 2 from rfl] at ev; subst ev; have hVv := own_ints hO6; have hKg : Kept (fun k => k = w3.heap.size) (w4.alloc (.cells #[.int .i64 sv2] 3)) w6 := Kept.of_grown hg6 (fun k hk => by injection hk with hk; exact hk.symm); have HVv := Lib.hid hVv; have HNe : Hid (∀ g, (Value.slice Av 2 cv).ownBlock = some g → g = w3.heap.size ∨ w4.heap.size ≤ g) := Lib.hid (fun g hg => by rcases hat6 with h | h <;> rw [h] at hg <;> injection hg with hg; exact .inl hg.symm; exact .inr (by simp at hg; omega)); have HB46 : Hid (Kept (fun k => k = w3.heap.size) w4 w6) := Lib.hid (((Kept.refl _ _).alloc (.cells #[.int .i64 sv2] 3)).trans hKg); have HY6 := Lib.hid (HY4.out.kept HB46.out (by have := HZ4.out; omega)); have y2b : w6.cell? ⟨Y, 2, none⟩ = some (.slice (some ⟨w3.heap.size, 0, none⟩) 1 1) := HY6.out.cell 2; have fy2 := HY6.out.frozen 2; have zY6 : Y < w6.heap.size := HY6.out.lt; clear hO6 hg6 hat6 hVv hKg)
          obtain ⟨wd, hwd⟩ : ∃ wd : World, wd = w6.setCell ⟨Y, 2, none⟩ (.slice Av 2 cv) := ⟨_, rfl⟩
          have hkY : Kept (fun b => b = Y) w6 wd := by rw [hwd]; exact (Kept.refl (fun b => b = Y) w6).setCell (p := ⟨Y, 2, none⟩) (.inl rfl) _
          have HYd : Hid (Blk' wd Y 169 #[.int .i64 lv, .int .i64 (i : Int), .slice Av 2 cv, .bool bk]) := Lib.hid (by rw [hwd]; exact HY6.out.set_ 2 _)
          have HBd : Hid (Below wo.heap.size wo wd) := Lib.hid (HB4.out.trans (((HB46.out.mono (Y := fun b => wo.heap.size ≤ b) (fun b _ (hb : b = w3.heap.size) => by have := HZ4.out; omega)).trans (hkY.mono (fun b _ (hb : b = Y) => by have := HZ4.out; omega))).to_below (B := wo.heap.size) (fun b hb => hb) HB4.out.size))
          have HVd : Hid (Vl wd (fun b => (Value.slice Av 2 cv).ownBlock = some b) [sv, sv2] (.slice Av 2 cv)) := Lib.hid (HVv.out.kept hkY (fun b hb h => by have h1 := HNe.out b hb; have := HZ4.out; have := HB5.out.size; omega))
          have HPd := Lib.hid (HPk.out.below HBd.out HPk.out.lt)
          have HOd := Lib.hid (HOk.out.below HBd.out (Nat.le_refl _))
          have HWd := Lib.hid hwd
          rw [← hwd]
          have hzd := hkY.size
          have hz46 := HB46.out.size
          have HZd : Hid (w4.heap.size ≤ wd.heap.size ∧ w5.heap.size ≤ w6.heap.size + 0 + w5.heap.size) := Lib.hid ⟨by omega, by omega⟩
          clear y2 y2b fy2 zY6 zP zY r0 r1 p4 hil2 hkl2 hy1 hy2 hbr hby hwd hkY hzd hz46 hw5
          have p7 : wd.cell? ⟨P, 7, none⟩ = some vk := HPd.out.cell 7
          have y0 : wd.cell? ⟨Y, 0, none⟩ = some (.int .i64 lv) := HYd.out.cell 0
          have y1 : wd.cell? ⟨Y, 1, none⟩ = some (.int .i64 (i : Int)) := HYd.out.cell 1
          have y2 : wd.cell? ⟨Y, 2, none⟩ = some (.slice Av 2 cv) := HYd.out.cell 2
          have y3 : wd.cell? ⟨Y, 3, none⟩ = some (.bool bk) := HYd.out.cell 3
          have zP : P < wd.heap.size := HPd.out.lt
          have zY : Y < wd.heap.size := HYd.out.lt
          have HCut : Hid (cutL leaf i ⟨ql, qr⟩ y k ++ [(⟨lv, (i : Int), [sv, sv2], bk⟩ : Part)] = cutL leaf i ⟨ql, qr⟩ y (k + 1)) := Lib.hid (by have e1 : qr.getD k ⟨false, 0⟩ = s := (by rw [List.getD_eq_getElem?_getD, HSn.out]; rfl); have e3 : y.getD k 0 = sv2 := (by rw [List.getD_eq_getElem?_getD, HYk.out]; rfl); rw [cutL_snoc, HLv.out hkn, HSV.out, HBK.out]; dsimp only; rw [if_neg hla, e1, e3])
          have HVl : Hid (Vl (wd.drew.alloc (.cells #[.int .i64 lv, .int .i64 (i : Int), .slice Av 2 cv, .bool bk] 169)) (OwnT (fun _ => False) B vk (wd.drew.alloc (.cells #[.int .i64 lv, .int .i64 (i : Int), .slice Av 2 cv, .bool bk] 169))) [sv, sv2] (.slice Av 2 cv)) := Lib.hid (HVd.out.keep (fun p hp hlt => (((Below.refl wd.heap.size wd).drew).alloc (Nat.le_refl _) (.cells #[.int .i64 lv, .int .i64 (i : Int), .slice Av 2 cv, .bool bk] 169)).cell hlt) (fun b hb => by have h1 := HNe.out b hb; have := HPZ.out; have := HZ4.out; have hz5 := HB5.out.size; have := HZ1.out; have hzk := HKk.out.size; have hzd' := HVd.out.own_lt hb; exact ⟨.inr (by omega), fun h => by have h2 := (HOk.out.block _ h).2; omega, by simp; omega⟩))
          refine wp_region_noPanic ?_
          refine stage_start (S := (fun w' => w'.cell? ⟨P, 7, none⟩ = some vk ∧ w'.cell? ⟨Y, 0, none⟩ = some (.int .i64 lv) ∧ w'.cell? ⟨Y, 1, none⟩ = some (.int .i64 (i : Int)) ∧ w'.cell? ⟨Y, 2, none⟩ = some (.slice Av 2 cv) ∧ w'.cell? ⟨Y, 3, none⟩ = some (.bool bk))) 10 (by kernel_rfl) ?hz (fun hHeld => ?bz)
          case hz => ((try dsimp only); go_keep)
          refine st_pure (i := 0) (v := ?vz0) rfl (by kernel_rfl) (by kernel_rfl) (by kernel_rfl) (by kernel_rfl) (fun _ _ _ h => h) (by rfl) ?yz0 (.inl (by assumption)) ?rz0
          case yz0 => (intro w; go_simp; try with_reducible rfl)
          try simp only [Act.put, List.setIfInBounds_toArray, List.set_cons_zero, List.set_cons_succ]
          refine st_pure (i := 1) (v := ?vz1) rfl (by kernel_rfl) (by kernel_rfl) (by kernel_rfl) (by kernel_rfl) (fun _ _ _ h => h) (by rfl) ?yz1 (.inl (by assumption)) ?rz1
          case yz1 => (intro w; go_simp; try with_reducible rfl)
          try simp only [Act.put, List.setIfInBounds_toArray, List.set_cons_zero, List.set_cons_succ]
          refine st_pure (i := 2) (v := ?vz2) rfl (by kernel_rfl) (by kernel_rfl) (by kernel_rfl) (by kernel_rfl) (fun _ _ _ h => h) (by rfl) ?yz2 (.inl (by assumption)) ?rz2
          case yz2 => (intro w; go_simp; try with_reducible rfl)
          try simp only [Act.put, List.setIfInBounds_toArray, List.set_cons_zero, List.set_cons_succ]
          refine st_pure (i := 3) (v := ?vz3) rfl (by kernel_rfl) (by kernel_rfl) (by kernel_rfl) (by kernel_rfl) (fun _ _ _ h => h) (by rfl) ?yz3 (.inl (by assumption)) ?rz3
          case yz3 => (intro w; go_simp; try with_reducible rfl)
          try simp only [Act.put, List.setIfInBounds_toArray, List.set_cons_zero, List.set_cons_succ]
          refine st_run (i := 4) (v := ?vz4) rfl (by kernel_rfl) (by kernel_rfl) (by kernel_rfl) (by kernel_rfl) (fun _ _ _ h => h) (by rfl) ?yz4 (by assumption) ?rz4
          case yz4 => (intro w hSw; (try dsimp only at hSw); go_simp; try with_reducible rfl)
          try simp only [Act.put, List.setIfInBounds_toArray, List.set_cons_zero, List.set_cons_succ]
          refine st_run (i := 5) (v := ?vz5) rfl (by kernel_rfl) (by kernel_rfl) (by kernel_rfl) (by kernel_rfl) (fun _ _ _ h => h) (by rfl) ?yz5 (by assumption) ?rz5
          case yz5 => (intro w hSw; (try dsimp only at hSw); go_simp; try with_reducible rfl)
          try simp only [Act.put, List.setIfInBounds_toArray, List.set_cons_zero, List.set_cons_succ]
          refine st_one (i := 6) rfl (by kernel_rfl) (by rfl) (fun Kq hK => ?_)
          go_simp
          refine hK.out _ _ ?hz6 (fun hHeld => ?rz6)
          case hz6 => ((try dsimp only); go_keep)
          clear hK Kq
          try simp only [Act.put, List.setIfInBounds_toArray, List.set_cons_zero, List.set_cons_succ]
          refine st_one (i := 7) rfl (by kernel_rfl) (by rfl) (fun Kq hK => ?_)
          refine wp_own1 _ _ _ elemPart rfl rfl (HOd.out.drew.alloc (.cells #[.int .i64 lv, .int .i64 (i : Int), .slice Av 2 cv, .bool bk] 169)) (⟨lv, (i : Int), [sv, sv2], bk⟩ : Part) [.int .i64 lv, .int .i64 (i : Int), .slice Av 2 cv, .bool bk] rfl (At.new wd.drew [.int .i64 lv, .int .i64 (i : Int), .slice Av 2 cv, .bool bk] 169) ⟨_, rfl, HL64.out, HQI.out.2, HVl.out⟩ (by rw [List.length_append, cutL_len]; omega) (by rw [List.length_append, cutL_len]; omega) (by have := HPZ.out; have := HBd.out.size; have := HKk.out.size; have := HZ1.out; simp; omega) ?_
          intro v' w8 hO8 hg8 hat8
          obtain ⟨Aw, cw, ev, _, _, _⟩ := hO8.form
          obtain ⟨nw, hnw⟩ : ∃ nw, nw = (ps ++ cutL leaf i ⟨ql, qr⟩ y k ++ [(⟨lv, (i : Int), [sv, sv2], bk⟩ : Part)]).length := ⟨_, rfl⟩
          rw [← hnw] at ev
          subst ev
          clear hnw
          rw [List.append_assoc, HCut.out] at hO8
          have HO8 := Lib.hid hO8
          have hKg : Kept (fun g => vk.ownBlock = some g) (wd.drew.alloc (.cells #[.int .i64 lv, .int .i64 (i : Int), .slice Av 2 cv, .bool bk] 169)) w8 := Kept.of_grown (X := fun g => vk.ownBlock = some g) hg8 (fun g hk => hk)
          have HKg := Lib.hid hKg
          have HP8 := Lib.hid ((HPd.out.drew.alloc (.cells #[.int .i64 lv, .int .i64 (i : Int), .slice Av 2 cv, .bool bk] 169)).kept hKg (fun h => by have := (HOk.out.block _ h).1; have := HPZ.out; omega))
          have HY8 := Lib.hid ((HYd.out.drew.alloc (.cells #[.int .i64 lv, .int .i64 (i : Int), .slice Av 2 cv, .bool bk] 169)).kept hKg (fun h => by have := (HOk.out.block _ h).2; have := HZ4.out; omega))
          have HA8 : Hid (∀ g, (Value.slice Aw nw cw).ownBlock = some g → g < w.heap.size ∨ w1.heap.size ≤ g) := Lib.hid (fun g hg => by rcases hat8 with h | h; exact HAt.out g (h ▸ hg); rw [h] at hg; injection hg with hg; have := HBd.out.size; have := HKk.out.size; simp at hg; exact .inr (by omega))
          have p7b : w8.cell? ⟨P, 7, none⟩ = some vk := HP8.out.cell 7
          have fp7 := HP8.out.frozen 7
          have zP8 : P < w8.heap.size := HP8.out.lt
          have y0b : w8.cell? ⟨Y, 0, none⟩ = some (.int .i64 lv) := HY8.out.cell 0
          have y1b : w8.cell? ⟨Y, 1, none⟩ = some (.int .i64 (i : Int)) := HY8.out.cell 1
          have y2b : w8.cell? ⟨Y, 2, none⟩ = some (.slice Av 2 cv) := HY8.out.cell 2
          have y3b : w8.cell? ⟨Y, 3, none⟩ = some (.bool bk) := HY8.out.cell 3
          have zY8 : Y < w8.heap.size := HY8.out.lt
          clear hO8 hg8 hat8 hKg
          refine hK.out _ _ ?hz7 (fun hHeld => ?rz7)
          case hz7 => ((try dsimp only); go_keep)
          clear hK Kq
          try simp only [Act.put, List.setIfInBounds_toArray, List.set_cons_zero, List.set_cons_succ]
          refine st_pure (i := 8) (v := ?vz8) rfl (by kernel_rfl) (by kernel_rfl) (by kernel_rfl) (by kernel_rfl) (fun _ _ _ h => h) (by rfl) ?yz8 (.inl (by assumption)) ?rz8
          case yz8 => (intro w; go_simp; try with_reducible rfl)
          try simp only [Act.put, List.setIfInBounds_toArray, List.set_cons_zero, List.set_cons_succ]
          refine st_pure (i := 9) (v := ?vz9) rfl (by kernel_rfl) (by kernel_rfl) (by kernel_rfl) (by kernel_rfl) (fun _ _ _ h => h) (by rfl) ?yz9 (.inl (by assumption)) ?rz9
          case yz9 => (intro w; go_simp; try with_reducible rfl)
          try simp only [Act.put, List.setIfInBounds_toArray, List.set_cons_zero, List.set_cons_succ]
          refine st_late (i := 10) rfl (by kernel_rfl) (by rfl) (by kernel_rfl) (fun Kq hK => ?_)
          go_simp
          refine hK.out _ _ ?_
          clear hK Kq
          try simp only [Act.put, List.setIfInBounds_toArray, List.set_cons_zero, List.set_cons_succ]
          refine wpAnyD_done (by kernel_rfl) ?_ _
          refine NoPanic.normal ?_
          go_wp2_with fail
          go_roundw
          case rel =>
            have hO9 := HO8.out.setCell (p := ⟨P, 7, none⟩) (fun h => by have h1 := (HO8.out.block _ h).1; have := HPZ.out; dsimp only at h1; omega) (fun h => by have := HPZ.out; rcases h with h | h; exact h; dsimp only at h; omega) (.slice Aw nw cw)
            have hK9 : Kept (fun b => b = P ∨ (B ≤ b ∧ b < w.heap.size)) w1 (w8.setCell ⟨P, 7, none⟩ (.slice Aw nw cw)) := by
              refine Kept.setCell ?_ (p := ⟨P, 7, none⟩) (.inl (.inl rfl)) (.slice Aw nw cw)
              exact ((HKk.out.below HBd.out).drew.alloc (.cells #[.int .i64 lv, .int .i64 (i : Int), .slice Av 2 cv, .bool bk] 169)).later HKg.out (fun g hg => by rcases HAt.out g hg with h | h; exact .inl (.inr ⟨(HOk.out.block _ hg).1, h⟩); exact .inr h)
            exact ⟨k + 1, _, sv2, hkn, rfl, by go_num, HI2.out, fun _ => (by rw [if_neg (by omega), Nat.add_sub_cancel, List.getD_eq_getElem?_getD, HYk.out]; rfl), HP8.out.set_ 7 (.slice Aw nw cw), hO9, hK9, HA8.out⟩
          case measure => simp [intOf]; omega
      · have e0 : ¬ (k : Int) < ((qr.length - 1 : Nat) : Int) := by omega
        have HPt : Hid (npartR leaf i ⟨ql, qr⟩ y = cutL leaf i ⟨ql, qr⟩ y k) := Lib.hid (by rw [show k = qr.length - 1 from by omega]; exact if_neg hsh)
        rw [← HPt.out] at HOk
        have hK9 : Kept (fun b => b = P ∨ B ≤ b) w wo := (Kept.of_below _ HB1.out).trans (HKk.out.mono (fun b _ h => h.imp id (fun h => h.1)))
        have HK9 := Lib.hid hK9
        clear hK9
        go_wp2
        exact bodyPost_end (v := .tuple #[]) (by simp [results, Tryd.results103, go_sem]) rfl ⟨rfl, _, HPk.out, HOk.out, HK9.out⟩
end Go.Proofs.YtecofoilghdedaaDoor
