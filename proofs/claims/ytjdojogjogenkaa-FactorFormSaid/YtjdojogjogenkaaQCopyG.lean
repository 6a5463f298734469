/- Contracts: slices.Clone at symbols, gram.Copy. -/
import Derived.Test.YtjdojogjogenkaaQp1
import Derived.Lib.SliceRun
import Derived.Deep.Cut
namespace Go.Proofs.Ytjdojogjogenkaa
open Go.RowKit
set_option linter.unusedVariables false
theorem Els.symFlat {w : World} {S S' : Nat → Prop} {l : List Sym} {g o : Nat} (h : Els w S l (some ⟨g, o, none⟩)) (hg : S' g) : Els w S' l (some ⟨g, o, none⟩) := by
 intro hne
 obtain ⟨b, o', e, _, hx⟩ := h hne
 injection e with e
 injection e with e1 e2 _
 subst e1; subst e2
 exact ⟨g, o, rfl, hg, fun i x hi => by obtain ⟨cs, h1, h2⟩ := hx i x hi; exact ⟨cs, h1, h2⟩⟩
theorem cell_alloc {w : World} {b o : Nat} {v : Value} (h : w.cell? ⟨b, o, none⟩ = some v) (ob : Obj) : (w.alloc ob).cell? ⟨b, o, none⟩ = some v := (((Below.refl w.heap.size w).alloc (Nat.le_refl _) ob).cell (p := ⟨b, o, none⟩) (World.block_lt_of_cell? w _ h)).trans h
def RetClone (l : List Sym) (n : Nat) (w : World) (e : Ending) (w' : World) : Prop :=
 ∃ (A' : Option Addr) (c' : Nat), e = .returned (.slice A' n c') ∧ n ≤ c' ∧ c' ≤ 9223372036854775807 ∧ Els w' (fun b => w.heap.size ≤ b ∧ b < w'.heap.size) l A' ∧ Below w.heap.size w w'
set_option maxRecDepth 100000 in
set_option maxHeartbeats 2000000 in
theorem cloneSym_any (l : List Sym) (A : Option Addr) (c n : Nat) (S : Nat → Prop) (w : World) (hl : n = l.length) (hm : l.length ≤ 1000000) (hA : Els w S l A) (hS : ∀ b, S b → b < w.heap.size) :
  Calls Try.prog 43 #[.slice A n c] w (RetClone l n w) := by
 subst hl
 have HA := Lib.hid hA
 have HS := Lib.hid hS
 have q22 : ∀ (w : World) (a : Option Addr) (n c n' c' : Nat), (binOp .eql 31 (.slice a n c) (.slice none n' c')).run Try.prog w = .ok (.bool a.isNone) w := fun w a n c n' c' => Lib.run_eql_slice_nil w _ _ a n c n' c' Try.underlying31
 clear hA hS
 cases A with
 | none =>
  have hl0 : l = [] := by
   cases l with
   | nil => rfl
   | cons x xs => obtain ⟨_, _, e, _⟩ := HA.out (by simp); simp at e
  subst hl0
  have hb := Lib.hid (Below.refl w.heap.size w)
  go_enter Try.func43, Try.ntmps43
  go_wp2
  go_ret
  exact ⟨none, 0, rfl, Nat.le_refl _, by omega, fun h => absurd rfl h, hb.out⟩
 | some a =>
  have HB1 := Lib.hid ((Below.refl w.heap.size w).alloc (Nat.le_refl _) (.cells #[] 35))
  have HO := Lib.hid (Own.made (α := Sym) (w := w) (fun b => b < w.heap.size) (base := w.heap.size) (e := 35) (cur := #[]) (cap := 0) (Nat.le_refl _) (by omega) rfl)
  have HE := Lib.hid ((HA.out.below HB1.out).keep (S' := OwnT (fun b => b < w.heap.size) w.heap.size (.slice (some ⟨w.heap.size, 0, none⟩) 0 0) (w.alloc (.cells #[] 35))) (fun _ _ _ => rfl) (fun b hb => by
   have h1 := HS.out b hb
   exact ⟨.inl h1, by simp [Value.ownBlock]; omega, by simp; omega⟩))
  go_enter Try.func43, Try.ntmps43
  go_wp2_with (at_builtin; refine wpList_ownMany _ rfl _ _ elemSym rfl rfl HO.out l rfl rfl HE.out (by simp; omega) (by simp; omega) (by simp) ?_; intro v' w' hown' hg' _)
  obtain ⟨A', c', rfl, h1, h2, h3⟩ := hown'.form
  have HEl := Lib.hid hown'.vl.els.2.2.2
  have HBl := Lib.hid (bgrown HB1.out hg' HO.out (Nat.le_refl _) (by simp))
  have HF : Hid (Els w' (fun b => w.heap.size ≤ b ∧ b < w'.heap.size) ([] ++ l) A') := Lib.hid (by
   rcases h3 with h3 | ⟨g, rfl, hg1, hg2⟩
   ·rw [h3]; exact fun h => absurd rfl h
   ·exact HEl.out.symFlat ⟨hg1, hg2⟩)
  have HN := Lib.hid (And.intro h1 h2)
  clear hown' hg' h1 h2 h3
  go_wp2
  go_ret
  exact ⟨A', c', by simp, by have := HN.out.1; simpa using this, HN.out.2, by have := HF.out; simpa using this, HBl.out⟩
def CpyL (t n s : Int) (rs : List Rule) (w : World) (i : Value) (wr : World) : Prop :=
 ∃ (k : Nat) (v : Value), k ≤ rs.length ∧ i = .int .i64 k ∧ Own wr (fun _ => False) (w.heap.size + 3) 33 v (rs.take k) ∧ Blk' wr (w.heap.size + 1 + 1) 25 #[.int .i64 t, .int .i64 n, .int .i64 s, v] ∧ Blk' wr (w.heap.size + 1) 25 #[.int .i64 0, .int .i64 0, .int .i64 0, .slice none 0 0] ∧ Below w.heap.size w wr
set_option maxRecDepth 100000 in
set_option maxHeartbeats 4000000 in
theorem copyG_any (t n s : Int) (rs : List Rule) (A : Option Addr) (c : Nat) (Sr : Nat → Prop) (w : World) (hrl : rs.length ≤ 1000) (hrr : ∀ q ∈ rs, q.right.length ≤ 1000) (hlc : rs.length ≤ c) (hc : c ≤ 9223372036854775807) (hA : Els w Sr rs A) (hSr : ∀ b, Sr b → b < w.heap.size) :
  Calls Try.prog 20 #[.agg #[.int .i64 t, .int .i64 n, .int .i64 s, .slice A rs.length c]] w fun e w' => ∃ v, e = .returned (.agg #[.int .i64 t, .int .i64 n, .int .i64 s, v]) ∧ Own w' (fun _ => False) w.heap.size 33 v rs ∧ Below w.heap.size w w' := by
 obtain ⟨w1, hw1⟩ : ∃ w1 : World, w1 = ((w.alloc (.cells #[.int .i64 t, .int .i64 n, .int .i64 s, .slice A rs.length c] 25)).alloc (.cells #[.int .i64 0, .int .i64 0, .int .i64 0, .slice none 0 0] 25)).alloc (.cells #[.int .i64 t, .int .i64 n, .int .i64 s, .slice none 0 0] 25) := ⟨_, rfl⟩
 have HW1 := Lib.hid hw1
 have hb1 : Below w.heap.size w w1 := by rw [hw1]; exact (((Below.refl _ _).alloc (Nat.le_refl _) _).alloc (by simp) _).alloc (by simp; omega) _
 have hP1 : Blk' w1 w.heap.size 25 #[.int .i64 t, .int .i64 n, .int .i64 s, .slice A rs.length c] := by rw [hw1]; exact ((Blk'.new w _ _).alloc _).alloc _
 have hR1 : Blk' w1 (w.heap.size + 1) 25 #[.int .i64 0, .int .i64 0, .int .i64 0, .slice none 0 0] := by rw [hw1]; exact (Blk'.new' _ _ _ (by simp)).alloc _
 have hO1 : Blk' w1 (w.heap.size + 1 + 1) 25 #[.int .i64 t, .int .i64 n, .int .i64 s, .slice none 0 0] := by rw [hw1]; exact Blk'.new' _ _ _ (by simp)
 have HA := Lib.hid hA
 have H1 := Lib.hid (And.intro hb1 (And.intro hR1 hO1))
 have HSr := Lib.hid hSr
 have HRr := Lib.hid hrr
 have hrl9 : (rs.length : Int) ≤ 1000 := by omega
 clear hw1 hb1 hP1 hR1 hO1 hA hSr hrr
 go_enter Try.func20, Try.ntmps20
 go_wp2_with fail
 rw [← HW1.out]
 go_loopw [11] (fun i wr => CpyL t n s rs w i wr) (fun i _ => rs.length - (intOf i).toNat)
 case atStart => exact ⟨0, _, Nat.zero_le _, rfl, Own.nil _ _ _ _, H1.out.2.2, H1.out.2.1, H1.out.1⟩
 case round =>
  obtain ⟨wo, hwo⟩ : ∃ wo : World, wo = wr := ⟨_, rfl⟩
  subst hwo
  obtain ⟨k, v, hk, rfl, hown, hO, hR, hb⟩ := hrel
  have HOw := Lib.hid hown
  have HO := Lib.hid hO
  have HR := Lib.hid hR
  have HB := Lib.hid hb
  have hzo : w.heap.size + 1 + 1 < wo.heap.size := hO.lt
  clear hown hO hR hb
  by_cases hlt : k < rs.length
  ·obtain ⟨q, hq⟩ := get_some hlt
   obtain ⟨bq, oq, Aq, cq, eA, hSb, hbs, hqi, hrc, hcr, hEr, hc0, hc1⟩ := (HA.out.belowB HB.out HSr.out).rule hq
   subst eA
   have hql := HRr.out q (List.mem_of_getElem? hq)
   obtain ⟨w5, hw5⟩ : ∃ w5 : World, w5 = wo.alloc (.cells #[.int .i64 q.left, .slice Aq q.right.length cq] 33) := ⟨_, rfl⟩
   have HW5 := Lib.hid hw5
   have hb5 : Below wo.heap.size wo w5 := by rw [hw5]; exact (Below.refl _ _).alloc (Nat.le_refl _) _
   have HX5 : Hid (Blk' w5 wo.heap.size 33 #[.int .i64 q.left, .slice Aq q.right.length cq]) := Lib.hid (by rw [hw5]; exact Blk'.new wo _ _)
   have HE5 := Lib.hid (hEr.below hb5)
   have HOw5 := Lib.hid (HOw.out.below hb5 (Nat.le_refl _))
   have HO5 := Lib.hid (HO.out.below hb5 HO.out.lt)
   have HR5 := Lib.hid (HR.out.below hb5 HR.out.lt)
   have HB5 := Lib.hid (bthen HB.out hb5 HB.out.size)
   have x0 : w5.cell? ⟨wo.heap.size, 0, none⟩ = some (.int .i64 q.left) := HX5.out.cell 0
   have x1 : w5.cell? ⟨wo.heap.size, 1, none⟩ = some (.slice Aq q.right.length cq) := HX5.out.cell 1
   have o3 : w5.cell? ⟨w.heap.size + 1 + 1, 3, none⟩ = some v := HO5.out.cell 3
   have zX : wo.heap.size < w5.heap.size := HX5.out.lt
   have zO : w.heap.size + 1 + 1 < w5.heap.size := HO5.out.lt
   have hk0 : (0 : Int) ≤ (k : Int) := by omega
   have hk1 : (k : Int) < (rs.length : Int) := by omega
   have HQ := Lib.hid (And.intro hqi (And.intro hrc hcr))
   have HT := Lib.hid (show rs.take (k + 1) = rs.take k ++ [⟨q.left, q.right⟩] from take_snoc hq)
   have HTl := Lib.hid (show (rs.take k).length ≤ 1000 by rw [List.length_take]; omega)
   have HTk := Lib.hid (show (rs.take k ++ [(⟨q.left, q.right⟩ : Rule)]).length = k + 1 by simp [List.length_take]; omega)
   clear hw5 hb5 hEr hq hSb hqi hrc hcr
   go_upto_region 6 with (fail)
   rw [← HW5.out]
   refine wp_region_noPanic ?_
   refine wp_region_held_drew (S := (fun w' => w'.cell? ⟨wo.heap.size, 0, none⟩ = some (.int .i64 q.left) ∧ w'.cell? ⟨wo.heap.size, 1, none⟩ = some (.slice Aq q.right.length cq))) (by kernel_rfl) ?hs (fun hHeld => ?bs)
   case hs => ((try dsimp only); go_keep)
   refine take_run (i := 0) (v := ?vs0) rfl (by kernel_rfl) (by kernel_rfl) (by kernel_rfl) (fun _ _ _ h => h) (by rfl) ?ys0 (by assumption) ?rs0
   case ys0 => (intro w hSw; (try dsimp only at hSw); go_simp; try with_reducible rfl)
   try simp only [Act.put, List.setIfInBounds_toArray, List.set_cons_zero, List.set_cons_succ]
   refine take_run (i := 2) (v := ?vs2) rfl (by kernel_rfl) (by kernel_rfl) (by kernel_rfl) (fun _ _ _ h => h) (by rfl) ?ys2 (by assumption) ?rs2
   case ys2 => (intro w hSw; (try dsimp only at hSw); go_simp; try with_reducible rfl)
   try simp only [Act.put, List.setIfInBounds_toArray, List.set_cons_zero, List.set_cons_succ]
   refine take_run (i := 3) (v := ?vs3) rfl (by kernel_rfl) (by kernel_rfl) (by kernel_rfl) (fun _ _ _ h => h) (by rfl) ?ys3 (by assumption) ?rs3
   case ys3 => (intro w hSw; (try dsimp only at hSw); go_simp; try with_reducible rfl)
   try simp only [Act.put, List.setIfInBounds_toArray, List.set_cons_zero, List.set_cons_succ]
   refine take_run (i := 4) (v := ?vs4) rfl (by kernel_rfl) (by kernel_rfl) (by kernel_rfl) (fun _ _ _ h => h) (by rfl) ?ys4 (by assumption) ?rs4
   case ys4 => (intro w hSw; (try dsimp only at hSw); go_simp; try with_reducible rfl)
   try simp only [Act.put, List.setIfInBounds_toArray, List.set_cons_zero, List.set_cons_succ]
   refine take_run (i := 5) (v := ?vs5) rfl (by kernel_rfl) (by kernel_rfl) (by kernel_rfl) (fun _ _ _ h => h) (by rfl) ?ys5 (by assumption) ?rs5
   case ys5 => (intro w hSw; (try dsimp only at hSw); go_simp; try with_reducible rfl)
   try simp only [Act.put, List.setIfInBounds_toArray, List.set_cons_zero, List.set_cons_succ]
   refine take_two (i := 1) (j := 6) rfl rfl (by kernel_rfl) (by rfl) (by rfl) (fun Kq hK => ?oneq1) (fun Kq hK => ?twoq1)
   case oneq1 =>
    go_simp
    refine hK.out _ _ ?hsa1 (fun hHeld => ?rsa1)
    case hsa1 => ((try dsimp only); go_keep)
    clear hK Kq
    try simp only [Act.put, List.setIfInBounds_toArray, List.set_cons_zero, List.set_cons_succ]
    refine take_call (i := 6) rfl (by kernel_rfl) (by rfl) (fun Kq hK => ?_)
    go_simp
    go_at_call 43
    refine (cloneSym_any q.right Aq cq _ Sr w5.drew rfl (by omega) (HE5.out.below ((Below.refl _ _).drew)) (fun b hb => by have h1 := HSr.out b hb; show b < w5.heap.size; omega)).mono ?_
    rintro e w6 ⟨A6, c6, rfl, h61, h62, hE6, hb6⟩
    have HB6 := Lib.hid (bundrew hb6)
    have n0 := (HB6.out.cell (p := ⟨wo.heap.size, 0, none⟩) zX).trans x0
    have n1 := (HB6.out.cell (p := ⟨wo.heap.size, 1, none⟩) zX).trans x1
    have n3 := (HB6.out.cell (p := ⟨w.heap.size + 1 + 1, 3, none⟩) zO).trans o3
    have HE6 := Lib.hid (And.intro h61 (And.intro h62 hE6))
    have hz56 : w5.heap.size ≤ w6.heap.size := HB6.out.size
    clear h61 h62 hE6 hb6
    refine hK.out _ _ ?hsa6 (fun hHeld => ?rsa6)
    case hsa6 => ((try dsimp only); go_keep)
    clear hK Kq
    try simp only [Act.put, List.setIfInBounds_toArray, List.set_cons_zero, List.set_cons_succ]
    refine take_run (i := 7) (v := ?vta7) rfl (by kernel_rfl) (by kernel_rfl) (by kernel_rfl) (fun _ _ _ h => h) (by rfl) ?yta7 (by assumption) ?rta7
    case yta7 => (intro w hSw; (try dsimp only at hSw); go_simp; try with_reducible rfl)
    try simp only [Act.put, List.setIfInBounds_toArray, List.set_cons_zero, List.set_cons_succ]
    refine take_call (i := 8) rfl (by kernel_rfl) (by rfl) (fun Kq hK => ?_)
    go_simp
    refine hK.out _ _ ?hta8 (fun hHeld => ?rta8)
    case hta8 => ((try dsimp only); go_keep)
    clear hK Kq
    try simp only [Act.put, List.setIfInBounds_toArray, List.set_cons_zero, List.set_cons_succ]
    refine take_call (i := 9) rfl (by kernel_rfl) (by rfl) (fun Kq hK => ?_)
    refine wp_own1 _ _ _ elemRule rfl rfl ((HOw5.out.below HB6.out (Nat.le_refl _)).alloc _) ⟨q.left, q.right⟩ [.int .i64 q.left, .slice A6 q.right.length c6] rfl (At.new w6 _ _) ⟨_, rfl, HQ.out.1, Vl.of_slice rfl HE6.out.1 HE6.out.2.1 ((HE6.out.2.2.below ((Below.refl _ _).alloc (Nat.le_refl _) _)).keep (fun _ _ _ => rfl) (fun b hb => ⟨.inr (by have h1 : w5.heap.size ≤ b := hb.1; omega), fun e => by have h1 : w5.heap.size ≤ b := hb.1; have h2 := (HOw.out.block b e).2; omega, by have h1 := hb.2; simp; omega⟩))⟩ (by have := HTl.out; omega) (by have := HTl.out; omega) (by have h1 := HB.out.size; simp; omega) ?_
    intro v7 w7 hown7 hg7 _
    obtain ⟨A7, c7, ev7, _⟩ := hown7.form
    rw [HTk.out] at ev7
    subst ev7
    have hne : ∀ b, b ≤ wo.heap.size → (b < w.heap.size + 3 ∨ b = wo.heap.size) → some b ≠ v.ownBlock := fun b _ hb e => by have h1 := HOw.out.block b e.symm; rcases hb with hb | hb <;> omega
    have hX7 := ((HX5.out.below HB6.out zX).alloc (.cells #[.int .i64 q.left, .slice A6 q.right.length c6] 33)).grown hg7 (hne _ (Nat.le_refl _) (.inr rfl))
    have hO7 := ((HO5.out.below HB6.out zO).alloc (.cells #[.int .i64 q.left, .slice A6 q.right.length c6] 33)).grown hg7 (hne _ (by omega) (.inl (by omega)))
    have hR7 := ((HR5.out.below HB6.out HR5.out.lt).alloc (.cells #[.int .i64 q.left, .slice A6 q.right.length c6] 33)).grown hg7 (hne _ (by omega) (.inl (by omega)))
    have hb5w := bthen HB5.out HB6.out HB5.out.size
    have HB7 := Lib.hid ((hb5w.alloc hb5w.size (.cells #[.int .i64 q.left, .slice A6 q.right.length c6] 33)).grown hg7 (by have h1 := hb5w.size; simp; omega) (fun k hk => by have h1 := (HOw.out.block k hk).1; omega))
    have H7 := Lib.hid (And.intro hown7 (And.intro hO7 hR7))
    have m0 : w7.cell? ⟨wo.heap.size, 0, none⟩ = some (.int .i64 q.left) := hX7.cell 0
    have m1 : w7.cell? ⟨wo.heap.size, 1, none⟩ = some (.slice Aq q.right.length cq) := hX7.cell 1
    have m3 : w7.cell? ⟨w.heap.size + 1 + 1, 3, none⟩ = some v := hO7.cell 3
    have f3 := hO7.frozen 3
    have zO7 : w.heap.size + 1 + 1 < w7.heap.size := hO7.lt
    have neO : ¬ w.heap.size + 1 + 1 = wo.heap.size := by omega
    clear hown7 hg7 hX7 hO7 hR7 hb5w hne
    refine hK.out _ _ ?hta9 (fun hHeld => ?rta9)
    case hta9 => ((try dsimp only); go_keep)
    clear hK Kq
    try simp only [Act.put, List.setIfInBounds_toArray, List.set_cons_zero, List.set_cons_succ]
    refine take_run (i := 10) (v := ?vta10) rfl (by kernel_rfl) (by kernel_rfl) (by kernel_rfl) (fun _ _ _ h => h) (by rfl) ?yta10 (by assumption) ?rta10
    case yta10 => (intro w hSw; (try dsimp only at hSw); go_simp; try with_reducible rfl)
    try simp only [Act.put, List.setIfInBounds_toArray, List.set_cons_zero, List.set_cons_succ]
    refine take_call (i := 11) rfl (by kernel_rfl) (by rfl) (fun Kq hK => ?_)
    go_simp
    refine hK.out _ _ ?hta11 (fun hHeld => ?rta11)
    case hta11 => ((try dsimp only); go_keep)
    clear hK Kq
    try simp only [Act.put, List.setIfInBounds_toArray, List.set_cons_zero, List.set_cons_succ]
    refine wpAnyH_done (by kernel_rfl) ?_ _
    refine NoPanic.normal ?_
    go_wp2_with fail
    go_roundw
    case rel =>
     obtain ⟨hown7, hO7, hR7⟩ := H7.out
     refine ⟨k + 1, _, hlt, by go_num, ?_, hO7.set_ 3 _, hR7.kept ((Kept.refl (fun b => b = w.heap.size + 1 + 1) w7).setCell (p := ⟨w.heap.size + 1 + 1, 3, none⟩) (.inl rfl) _) (by omega), HB7.out.setCell (p := ⟨w.heap.size + 1 + 1, 3, none⟩) (by show w.heap.size ≤ w.heap.size + 1 + 1; omega) _⟩
     rw [HT.out]
     exact hown7.setCell (p := ⟨w.heap.size + 1 + 1, 3, none⟩) (fun e => by have h1 := (hown7.block _ e).1; dsimp only at h1; omega) (by simp) _
    case measure => simp [intOf]; omega
   case twoq1 =>
    go_simp
    go_at_call 43
    refine (cloneSym_any q.right Aq cq _ Sr w5.drew rfl (by omega) (HE5.out.below ((Below.refl _ _).drew)) (fun b hb => by have h1 := HSr.out b hb; show b < w5.heap.size; omega)).mono ?_
    rintro e w6 ⟨A6, c6, rfl, h61, h62, hE6, hb6⟩
    have HB6 := Lib.hid (bundrew hb6)
    have n0 := (HB6.out.cell (p := ⟨wo.heap.size, 0, none⟩) zX).trans x0
    have n1 := (HB6.out.cell (p := ⟨wo.heap.size, 1, none⟩) zX).trans x1
    have n3 := (HB6.out.cell (p := ⟨w.heap.size + 1 + 1, 3, none⟩) zO).trans o3
    have HE6 := Lib.hid (And.intro h61 (And.intro h62 hE6))
    have hz56 : w5.heap.size ≤ w6.heap.size := HB6.out.size
    clear h61 h62 hE6 hb6
    refine hK.out _ _ ?hsb6 (fun hHeld => ?rsb6)
    case hsb6 => ((try dsimp only); go_keep)
    clear hK Kq
    try simp only [Act.put, List.setIfInBounds_toArray, List.set_cons_zero, List.set_cons_succ]
    refine take_run (i := 7) (v := ?vsb7) rfl (by kernel_rfl) (by kernel_rfl) (by kernel_rfl) (fun _ _ _ h => h) (by rfl) ?ysb7 (by assumption) ?rsb7
    case ysb7 => (intro w hSw; (try dsimp only at hSw); go_simp; try with_reducible rfl)
    try simp only [Act.put, List.setIfInBounds_toArray, List.set_cons_zero, List.set_cons_succ]
    refine take_two (i := 1) (j := 8) rfl rfl (by kernel_rfl) (by rfl) (by rfl) (fun Kq hK => ?oner1) (fun Kq hK => ?twor1)
    case oner1 =>
     go_simp
     refine hK.out _ _ ?hsc1 (fun hHeld => ?rsc1)
     case hsc1 => ((try dsimp only); go_keep)
     clear hK Kq
     try simp only [Act.put, List.setIfInBounds_toArray, List.set_cons_zero, List.set_cons_succ]
     refine take_call (i := 8) rfl (by kernel_rfl) (by rfl) (fun Kq hK => ?_)
     go_simp
     refine hK.out _ _ ?hsc8 (fun hHeld => ?rsc8)
     case hsc8 => ((try dsimp only); go_keep)
     clear hK Kq
     try simp only [Act.put, List.setIfInBounds_toArray, List.set_cons_zero, List.set_cons_succ]
     refine take_call (i := 9) rfl (by kernel_rfl) (by rfl) (fun Kq hK => ?_)
     refine wp_own1 _ _ _ elemRule rfl rfl ((HOw5.out.below HB6.out (Nat.le_refl _)).alloc _) ⟨q.left, q.right⟩ [.int .i64 q.left, .slice A6 q.right.length c6] rfl (At.new w6 _ _) ⟨_, rfl, HQ.out.1, Vl.of_slice rfl HE6.out.1 HE6.out.2.1 ((HE6.out.2.2.below ((Below.refl _ _).alloc (Nat.le_refl _) _)).keep (fun _ _ _ => rfl) (fun b hb => ⟨.inr (by have h1 : w5.heap.size ≤ b := hb.1; omega), fun e => by have h1 : w5.heap.size ≤ b := hb.1; have h2 := (HOw.out.block b e).2; omega, by have h1 := hb.2; simp; omega⟩))⟩ (by have := HTl.out; omega) (by have := HTl.out; omega) (by have h1 := HB.out.size; simp; omega) ?_
     intro v7 w7 hown7 hg7 _
     obtain ⟨A7, c7, ev7, _⟩ := hown7.form
     rw [HTk.out] at ev7
     subst ev7
     have hne : ∀ b, b ≤ wo.heap.size → (b < w.heap.size + 3 ∨ b = wo.heap.size) → some b ≠ v.ownBlock := fun b _ hb e => by have h1 := HOw.out.block b e.symm; rcases hb with hb | hb <;> omega
     have hX7 := ((HX5.out.below HB6.out zX).alloc (.cells #[.int .i64 q.left, .slice A6 q.right.length c6] 33)).grown hg7 (hne _ (Nat.le_refl _) (.inr rfl))
     have hO7 := ((HO5.out.below HB6.out zO).alloc (.cells #[.int .i64 q.left, .slice A6 q.right.length c6] 33)).grown hg7 (hne _ (by omega) (.inl (by omega)))
     have hR7 := ((HR5.out.below HB6.out HR5.out.lt).alloc (.cells #[.int .i64 q.left, .slice A6 q.right.length c6] 33)).grown hg7 (hne _ (by omega) (.inl (by omega)))
     have hb5w := bthen HB5.out HB6.out HB5.out.size
     have HB7 := Lib.hid ((hb5w.alloc hb5w.size (.cells #[.int .i64 q.left, .slice A6 q.right.length c6] 33)).grown hg7 (by have h1 := hb5w.size; simp; omega) (fun k hk => by have h1 := (HOw.out.block k hk).1; omega))
     have H7 := Lib.hid (And.intro hown7 (And.intro hO7 hR7))
     have m0 : w7.cell? ⟨wo.heap.size, 0, none⟩ = some (.int .i64 q.left) := hX7.cell 0
     have m1 : w7.cell? ⟨wo.heap.size, 1, none⟩ = some (.slice Aq q.right.length cq) := hX7.cell 1
     have m3 : w7.cell? ⟨w.heap.size + 1 + 1, 3, none⟩ = some v := hO7.cell 3
     have f3 := hO7.frozen 3
     have zO7 : w.heap.size + 1 + 1 < w7.heap.size := hO7.lt
     have neO : ¬ w.heap.size + 1 + 1 = wo.heap.size := by omega
     clear hown7 hg7 hX7 hO7 hR7 hb5w hne
     refine hK.out _ _ ?htc9 (fun hHeld => ?rtc9)
     case htc9 => ((try dsimp only); go_keep)
     clear hK Kq
     try simp only [Act.put, List.setIfInBounds_toArray, List.set_cons_zero, List.set_cons_succ]
     refine take_run (i := 10) (v := ?vtc10) rfl (by kernel_rfl) (by kernel_rfl) (by kernel_rfl) (fun _ _ _ h => h) (by rfl) ?ytc10 (by assumption) ?rtc10
     case ytc10 => (intro w hSw; (try dsimp only at hSw); go_simp; try with_reducible rfl)
     try simp only [Act.put, List.setIfInBounds_toArray, List.set_cons_zero, List.set_cons_succ]
     refine take_call (i := 11) rfl (by kernel_rfl) (by rfl) (fun Kq hK => ?_)
     go_simp
     refine hK.out _ _ ?htc11 (fun hHeld => ?rtc11)
     case htc11 => ((try dsimp only); go_keep)
     clear hK Kq
     try simp only [Act.put, List.setIfInBounds_toArray, List.set_cons_zero, List.set_cons_succ]
     refine wpAnyH_done (by kernel_rfl) ?_ _
     refine NoPanic.normal ?_
     go_wp2_with fail
     go_roundw
     case rel =>
      obtain ⟨hown7, hO7, hR7⟩ := H7.out
      refine ⟨k + 1, _, hlt, by go_num, ?_, hO7.set_ 3 _, hR7.kept ((Kept.refl (fun b => b = w.heap.size + 1 + 1) w7).setCell (p := ⟨w.heap.size + 1 + 1, 3, none⟩) (.inl rfl) _) (by omega), HB7.out.setCell (p := ⟨w.heap.size + 1 + 1, 3, none⟩) (by show w.heap.size ≤ w.heap.size + 1 + 1; omega) _⟩
      rw [HT.out]
      exact hown7.setCell (p := ⟨w.heap.size + 1 + 1, 3, none⟩) (fun e => by have h1 := (hown7.block _ e).1; dsimp only at h1; omega) (by simp) _
     case measure => simp [intOf]; omega
    case twor1 =>
     have n3a := cell_alloc n3 (.cells #[.int .i64 q.left, .slice A6 q.right.length c6] 33)
     go_simp
     refine hK.out _ _ ?hsd8 (fun hHeld => ?rsd8)
     case hsd8 => ((try dsimp only); go_keep)
     clear hK Kq
     try simp only [Act.put, List.setIfInBounds_toArray, List.set_cons_zero, List.set_cons_succ]
     refine take_call (i := 1) rfl (by kernel_rfl) (by rfl) (fun Kq hK => ?_)
     go_simp
     refine hK.out _ _ ?hsd1 (fun hHeld => ?rsd1)
     case hsd1 => ((try dsimp only); go_keep)
     clear hK Kq
     try simp only [Act.put, List.setIfInBounds_toArray, List.set_cons_zero, List.set_cons_succ]
     refine take_call (i := 9) rfl (by kernel_rfl) (by rfl) (fun Kq hK => ?_)
     refine wp_own1 _ _ _ elemRule rfl rfl ((HOw5.out.below HB6.out (Nat.le_refl _)).alloc _) ⟨q.left, q.right⟩ [.int .i64 q.left, .slice A6 q.right.length c6] rfl (At.new w6 _ _) ⟨_, rfl, HQ.out.1, Vl.of_slice rfl HE6.out.1 HE6.out.2.1 ((HE6.out.2.2.below ((Below.refl _ _).alloc (Nat.le_refl _) _)).keep (fun _ _ _ => rfl) (fun b hb => ⟨.inr (by have h1 : w5.heap.size ≤ b := hb.1; omega), fun e => by have h1 : w5.heap.size ≤ b := hb.1; have h2 := (HOw.out.block b e).2; omega, by have h1 := hb.2; simp; omega⟩))⟩ (by have := HTl.out; omega) (by have := HTl.out; omega) (by have h1 := HB.out.size; simp; omega) ?_
     intro v7 w7 hown7 hg7 _
     obtain ⟨A7, c7, ev7, _⟩ := hown7.form
     rw [HTk.out] at ev7
     subst ev7
     have hne : ∀ b, b ≤ wo.heap.size → (b < w.heap.size + 3 ∨ b = wo.heap.size) → some b ≠ v.ownBlock := fun b _ hb e => by have h1 := HOw.out.block b e.symm; rcases hb with hb | hb <;> omega
     have hX7 := ((HX5.out.below HB6.out zX).alloc (.cells #[.int .i64 q.left, .slice A6 q.right.length c6] 33)).grown hg7 (hne _ (Nat.le_refl _) (.inr rfl))
     have hO7 := ((HO5.out.below HB6.out zO).alloc (.cells #[.int .i64 q.left, .slice A6 q.right.length c6] 33)).grown hg7 (hne _ (by omega) (.inl (by omega)))
     have hR7 := ((HR5.out.below HB6.out HR5.out.lt).alloc (.cells #[.int .i64 q.left, .slice A6 q.right.length c6] 33)).grown hg7 (hne _ (by omega) (.inl (by omega)))
     have hb5w := bthen HB5.out HB6.out HB5.out.size
     have HB7 := Lib.hid ((hb5w.alloc hb5w.size (.cells #[.int .i64 q.left, .slice A6 q.right.length c6] 33)).grown hg7 (by have h1 := hb5w.size; simp; omega) (fun k hk => by have h1 := (HOw.out.block k hk).1; omega))
     have H7 := Lib.hid (And.intro hown7 (And.intro hO7 hR7))
     have m0 : w7.cell? ⟨wo.heap.size, 0, none⟩ = some (.int .i64 q.left) := hX7.cell 0
     have m1 : w7.cell? ⟨wo.heap.size, 1, none⟩ = some (.slice Aq q.right.length cq) := hX7.cell 1
     have m3 : w7.cell? ⟨w.heap.size + 1 + 1, 3, none⟩ = some v := hO7.cell 3
     have f3 := hO7.frozen 3
     have zO7 : w.heap.size + 1 + 1 < w7.heap.size := hO7.lt
     have neO : ¬ w.heap.size + 1 + 1 = wo.heap.size := by omega
     clear hown7 hg7 hX7 hO7 hR7 hb5w hne
     refine hK.out _ _ ?htd9 (fun hHeld => ?rtd9)
     case htd9 => ((try dsimp only); go_keep)
     clear hK Kq
     try simp only [Act.put, List.setIfInBounds_toArray, List.set_cons_zero, List.set_cons_succ]
     refine take_run (i := 10) (v := ?vtd10) rfl (by kernel_rfl) (by kernel_rfl) (by kernel_rfl) (fun _ _ _ h => h) (by rfl) ?ytd10 (by assumption) ?rtd10
     case ytd10 => (intro w hSw; (try dsimp only at hSw); go_simp; try with_reducible rfl)
     try simp only [Act.put, List.setIfInBounds_toArray, List.set_cons_zero, List.set_cons_succ]
     refine take_call (i := 11) rfl (by kernel_rfl) (by rfl) (fun Kq hK => ?_)
     go_simp
     refine hK.out _ _ ?htd11 (fun hHeld => ?rtd11)
     case htd11 => ((try dsimp only); go_keep)
     clear hK Kq
     try simp only [Act.put, List.setIfInBounds_toArray, List.set_cons_zero, List.set_cons_succ]
     refine wpAnyH_done (by kernel_rfl) ?_ _
     refine NoPanic.normal ?_
     go_wp2_with fail
     go_roundw
     case rel =>
      obtain ⟨hown7, hO7, hR7⟩ := H7.out
      refine ⟨k + 1, _, hlt, by go_num, ?_, hO7.set_ 3 _, hR7.kept ((Kept.refl (fun b => b = w.heap.size + 1 + 1) w7).setCell (p := ⟨w.heap.size + 1 + 1, 3, none⟩) (.inl rfl) _) (by omega), HB7.out.setCell (p := ⟨w.heap.size + 1 + 1, 3, none⟩) (by show w.heap.size ≤ w.heap.size + 1 + 1; omega) _⟩
      rw [HT.out]
      exact hown7.setCell (p := ⟨w.heap.size + 1 + 1, 3, none⟩) (fun e => by have h1 := (hown7.block _ e).1; dsimp only at h1; omega) (by simp) _
     case measure => simp [intOf]; omega
  ·have hkk : k = rs.length := by omega
   have hT : rs.take k = rs := by rw [hkk]; exact List.take_length
   have HOf := Lib.hid (show Own wo (fun _ => False) (w.heap.size + 3) 33 v rs by have h := HOw.out; rw [hT] at h; exact h)
   obtain ⟨Av, cv, rfl, _, _, _⟩ := HOf.out.form
   have hk1 : ¬ (k : Int) < (rs.length : Int) := by omega
   have o0 : wo.cell? ⟨w.heap.size + 1 + 1, 0, none⟩ = some (.int .i64 t) := HO.out.cell 0
   have o1 : wo.cell? ⟨w.heap.size + 1 + 1, 1, none⟩ = some (.int .i64 n) := HO.out.cell 1
   have o2 : wo.cell? ⟨w.heap.size + 1 + 1, 2, none⟩ = some (.int .i64 s) := HO.out.cell 2
   have o3 : wo.cell? ⟨w.heap.size + 1 + 1, 3, none⟩ = some (.slice Av rs.length cv) := HO.out.cell 3
   have s0 : wo.cell? ⟨w.heap.size + 1, 0, none⟩ = some (.int .i64 0) := HR.out.cell 0
   have s1 : wo.cell? ⟨w.heap.size + 1, 1, none⟩ = some (.int .i64 0) := HR.out.cell 1
   have s2 : wo.cell? ⟨w.heap.size + 1, 2, none⟩ = some (.int .i64 0) := HR.out.cell 2
   have s3 : wo.cell? ⟨w.heap.size + 1, 3, none⟩ = some (.slice none 0 0) := HR.out.cell 3
   have r0 := HR.out.frozen 0
   have r1 := HR.out.frozen 1
   have r2 := HR.out.frozen 2
   have r3 := HR.out.frozen 3
   have zR : w.heap.size + 1 < wo.heap.size := HR.out.lt
   clear hkk hT
   go_wp2_with fail
   generalize hwF : World.setCell _ _ _ = wF
   have kF : Kept (fun b => b = w.heap.size + 1) wo wF := by rw [← hwF]; exact ((((Kept.refl (fun b => b = w.heap.size + 1) wo).setCell (p := ⟨w.heap.size + 1, 0, none⟩) (.inl rfl) _).setCell (p := ⟨w.heap.size + 1, 1, none⟩) (.inl rfl) _).setCell (p := ⟨w.heap.size + 1, 2, none⟩) (.inl rfl) _).setCell (p := ⟨w.heap.size + 1, 3, none⟩) (.inl rfl) _
   have hRF : Blk' wF (w.heap.size + 1) 25 #[.int .i64 t, .int .i64 n, .int .i64 s, .slice Av rs.length cv] := by rw [← hwF]; exact (((HR.out.set_ 0 _).set_ 1 _).set_ 2 _).set_ 3 _
   have u0 : wF.cell? ⟨w.heap.size + 1, 0, none⟩ = some (.int .i64 t) := hRF.cell 0
   have u1 : wF.cell? ⟨w.heap.size + 1, 1, none⟩ = some (.int .i64 n) := hRF.cell 1
   have u2 : wF.cell? ⟨w.heap.size + 1, 2, none⟩ = some (.int .i64 s) := hRF.cell 2
   have u3 : wF.cell? ⟨w.heap.size + 1, 3, none⟩ = some (.slice Av rs.length cv) := hRF.cell 3
   clear hwF
   refine bodyPost_ret (v := .agg #[.int .i64 t, .int .i64 n, .int .i64 s, .slice Av rs.length cv]) (by simp [results, Try.results20, go_sem, u0, u1, u2, u3]) rfl ⟨_, rfl, ?_, HB.out.trans (kF.to_below (B := w.heap.size) (fun b (hb : b = w.heap.size + 1) => by omega) HB.out.size)⟩
   exact (HOf.out.kept kF (fun b (hb : b = w.heap.size + 1) h => h.elim id (fun h => by omega))).base (by omega)
end Go.Proofs.Ytjdojogjogenkaa
