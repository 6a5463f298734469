/- Contract: first.Make. -/
import Derived.Test.YtjdojogjogenkaaDoorQw2
import Derived.Test.YtjdojogjogenkaaDoorQp2
import Derived.Deep.RegionLaw
import Derived.Deep.LoopGhost
import Derived.StillTailTactics
namespace Go.Proofs.YtjdojogjogenkaaDoor
open Go.RowKit
set_option linter.unusedVariables false

def MkL (w : World) (m n : Nat) (gt gn gs : Int) (sl : Value) (i : Value) (wr : World) : Prop :=
  ∃ (v : Value) (bs : List Nat) (k : Nat), k ≤ n ∧ i = .int .i64 k ∧ bs.length = k ∧ Below w.heap.size w wr ∧ Blk' wr w.heap.size 24 #[.int .i64 gt, .int .i64 gn, .int .i64 gs, sl] ∧ Blk' wr (w.heap.size + 1) 4 (bcells (List.replicate n false)) ∧
    Blk' wr (w.heap.size + 2) 187 #[.int .i64 gt, .int .i64 gn, .int .i64 gs, sl, rowSl (w.heap.size + 1) n, v] ∧ wr.ownsRow (w.heap.size + 3) 53 1 v k (bs.map fun b => rowSl b m) ∧
    (∀ b ∈ bs, Blk' wr b 4 (bcells (List.replicate m false)) ∧ w.heap.size + 3 ≤ b ∧ v.ownBlock ≠ some b) ∧ bs.Nodup

theorem mk_next {w wo w7 : World} {m n k B6 : Nat} {gt gn gs : Int} {sl v v' : Value} {bs : List Nat} (hlt : k < n)
    (hB : Below w.heap.size w wo ∧ Blk' wo w.heap.size 24 #[.int .i64 gt, .int .i64 gn, .int .i64 gs, sl] ∧ Blk' wo (w.heap.size + 1) 4 (bcells (List.replicate n false)) ∧ Blk' wo (w.heap.size + 2) 187 #[.int .i64 gt, .int .i64 gn, .int .i64 gs, sl, rowSl (w.heap.size + 1) n, v])
    (hR : wo.ownsRow (w.heap.size + 3) 53 1 v k (bs.map fun b => rowSl b m) ∧ (∀ b ∈ bs, Blk' wo b 4 (bcells (List.replicate m false)) ∧ w.heap.size + 3 ≤ b ∧ v.ownBlock ≠ some b) ∧ bs.Nodup ∧ bs.length = k)
    (hV : ∀ g, v.ownBlock = some g → w.heap.size + 3 ≤ g ∧ g < wo.heap.size) (h7 : w7.ownsRow (w.heap.size + 3) 53 1 v' (k + 1) ((bs.map fun b => rowSl b m) ++ [.slice (some ⟨wo.heap.size, 0, none⟩) m m])) (hat : v'.ownBlock = v.ownBlock ∨ v'.ownBlock = some B6) (h6 : B6 = wo.heap.size + 2)
    (hK : Kept (fun b => v.ownBlock = some b) wo w7) (hP : Blk' w7 (w.heap.size + 2) 187 #[.int .i64 gt, .int .i64 gn, .int .i64 gs, sl, rowSl (w.heap.size + 1) n, v]) (hN : Blk' w7 wo.heap.size 4 (bcells (List.replicate m false))) :
    MkL w m n gt gn gs sl (.int .i64 ((k : Int) + 1)) (w7.setCell ⟨w.heap.size + 1 + 1, 5, none⟩ v') := by
  obtain ⟨hb, hG, hE, hPo⟩ := hB
  obtain ⟨hrow, hbs, hnd, hbl⟩ := hR
  have hlt2 : ∀ b ∈ bs, b < wo.heap.size := fun b hb => (hbs b hb).1.lt
  have hown' : ∀ b, (b ∈ bs ∨ b = wo.heap.size) → v'.ownBlock ≠ some b := fun b hb e => by
    rcases hat with q | q
    · rw [q] at e
      rcases hb with hb | hb
      · exact (hbs b hb).2.2 e
      · have := (hV b e).2; omega
    · rw [q] at e
      injection e with e
      rcases hb with hb | hb
      · have := hlt2 b hb; omega
      · omega
  refine ⟨v', bs ++ [wo.heap.size], k + 1, hlt, by go_num, by simp [hbl], ?_, ?_, ?_, hP.set_ 5 v', ?_, fun b hb' => ?_, ?_⟩
  · exact (hb.trans (hK.to_below (fun b hb => by have := (hV b hb).1; omega) hb.size)).setCell (p := ⟨w.heap.size + 1 + 1, 5, none⟩) (by show w.heap.size ≤ w.heap.size + 1 + 1; omega) _
  · exact (hG.kept hK (fun h => by have := (hV _ h).1; omega)).far (p := ⟨w.heap.size + 1 + 1, 5, none⟩) (by show w.heap.size ≠ w.heap.size + 1 + 1; omega) _
  · exact (hE.kept hK (fun h => by have := (hV _ h).1; omega)).far (p := ⟨w.heap.size + 1 + 1, 5, none⟩) (by show w.heap.size + 1 ≠ w.heap.size + 1 + 1; omega) _
  · rw [List.map_append]
    exact row_kept h7 ((Kept.refl (fun b => b = w.heap.size + 2) w7).setCell (p := ⟨w.heap.size + 1 + 1, 5, none⟩) (.inl rfl) _) (fun b hb e => by have := (h7.lt b hb).1; omega)
  · rcases List.mem_append.1 hb' with hm | hm
    · refine ⟨((hbs b hm).1.kept hK (hbs b hm).2.2).far (p := ⟨w.heap.size + 1 + 1, 5, none⟩) (by have := (hbs b hm).2.1; show b ≠ w.heap.size + 1 + 1; omega) _, (hbs b hm).2.1, hown' b (.inl hm)⟩
    · simp at hm
      subst hm
      have hs := hG.lt
      have hP2 : w.heap.size + 3 ≤ wo.heap.size := hPo.lt
      exact ⟨hN.far (p := ⟨w.heap.size + 1 + 1, 5, none⟩) (by show wo.heap.size ≠ w.heap.size + 1 + 1; omega) _, hP2, hown' _ (.inr rfl)⟩
  · rw [List.nodup_append]
    exact ⟨hnd, by simp, fun a ha b hb e => by simp at hb; subst hb; have := hlt2 a ha; omega⟩

theorem sets_of_mk {w wo : World} {m n : Nat} {gt gn gs : Int} {sl : Value} (hn : 1 ≤ n) (h : MkL w m n gt gn gs sl (.int .i64 (n : Int)) wo) : ∃ bf bs cf, SetsM wo (w.heap.size + 2) (w.heap.size + 1) bf bs m n gt gn gs sl cf (initS m n).1 (initS m n).2 ∧ Below w.heap.size w wo ∧ Blk' wo w.heap.size 24 #[.int .i64 gt, .int .i64 gn, .int .i64 gs, sl] ∧
    (∀ b ∈ (w.heap.size + 2) :: (w.heap.size + 1) :: bf :: bs, w.heap.size + 1 ≤ b) := by
  obtain ⟨v, bs, k, hk, hi, hbl, hb, hG, hE, hP, hrow, hbs, hnd⟩ := h
  injection hi with _ hi
  have hkn : k = n := by omega
  subst hkn
  obtain ⟨h1, h2⟩ := hrow
  rcases h2 with ⟨_, h3⟩ | ⟨bf, cap, cur, rfl, h4, h5, h6, h7, h8, h9⟩
  · omega
  · have hcell : ∀ (i b : Nat), bs[i]? = some b → wo.cell? ⟨bf, i, none⟩ = some (rowSl b m) := fun i b hib => by
      rw [cell_of_row wo bf i cur 53 (0, 0) h5]
      have hl : i < bs.length := (List.getElem?_eq_some_iff.1 hib).1
      have h10 : (bs.map fun b => rowSl b m)[i]? = some (rowSl b m) := by simp [hib]
      rw [← h9, List.getElem?_take] at h10
      rw [if_pos (by omega)] at h10
      rw [← Array.getElem?_toList]
      exact h10
    have hbf : bf < wo.heap.size := (Array.getElem?_eq_some_iff.1 h5).1
    refine ⟨bf, bs, cap, ⟨hP, hE, by simp [initS], by simp [initS], hbl, hcell, fun i b row hib hir => ?_, ?_, hbf, h6, by simpa [maxLen] using h7⟩, hb, hG, fun b hb' => ?_⟩
    · have hm := (hbs b (List.mem_of_getElem? hib)).1
      simp only [initS, List.getElem?_replicate] at hir
      split at hir
      · injection hir with hir
        subst hir
        exact ⟨hm, by simp⟩
      · cases hir
    · have hb1 : ∀ b ∈ bs, w.heap.size + 3 ≤ b := fun b hb => (hbs b hb).2.1
      have hb2 : bf ∉ bs := fun hm => (hbs bf hm).2.2 rfl
      simp only [List.nodup_cons, List.mem_cons, not_or]
      exact ⟨⟨by omega, by omega, fun hm => by have := hb1 _ hm; omega⟩, ⟨by omega, fun hm => by have := hb1 _ hm; omega⟩, hb2, hnd⟩
    · simp only [List.mem_cons] at hb'
      rcases hb' with rfl | rfl | rfl | hb'
      · omega
      · omega
      · omega
      · have := (hbs b hb').2.1; omega
/-- A row of First is written. -/
theorem SetsM.setRow {w w' : World} {p be bf : Nat} {bs : List Nat} {m n : Nat} {gt gn gs : Int} {sl : Value} {cf : Nat} {e : List Bool} {f : List (List Bool)} (h : SetsM w p be bf bs m n gt gn gs sl cf e f) {i bi : Nat} {row' : List Bool} (hi : bs[i]? = some bi) (k : Kept (fun b => b = bi) w w') (hb : Blk' w' bi 4 (bcells row')) (hl : row'.length = m) : SetsM w' p be bf bs m n gt gn gs sl cf e (f.set i row') := by
  have hm := List.mem_of_getElem? hi
  have hnd := h.nodup
  simp only [List.nodup_cons, List.mem_cons, not_or] at hnd
  obtain ⟨⟨n1, n2, n3⟩, ⟨n4, n5⟩, n6, n7⟩ := hnd
  refine ⟨h.ptr.kept k (fun e => n3 (e ▸ hm)), h.empty.kept k (fun e => n5 (e ▸ hm)), h.elen, by simp [h.flen], h.blen, fun j b hb' => (k.cell (p := ⟨bf, j, none⟩) h.bflt (fun e => n6 (by have e' : bf = bi := e; exact e' ▸ hm))).trans (h.outer j b hb'), fun j b row hjb hjr => ?_, h.nodup, Nat.lt_of_lt_of_le h.bflt k.size, h.cap⟩
  rw [List.getElem?_set] at hjr
  split at hjr
  · rename_i e
    subst e
    split at hjr
    · injection hjr with hjr
      subst hjr
      rw [hi] at hjb
      injection hjb with hjb
      subst hjb
      exact ⟨hb, hl⟩
    · cases hjr
  · rename_i e
    have hr := h.rows j b row hjb hjr
    refine ⟨hr.1.kept k (fun e' => ?_), hr.2⟩
    subst e'
    have h1 := (List.getElem?_eq_some_iff.1 hi)
    have h2 := (List.getElem?_eq_some_iff.1 hjb)
    obtain ⟨q1, q2⟩ := h1
    obtain ⟨q3, q4⟩ := h2
    exact e ((List.getElem_inj n7).1 (q2.trans q4.symm))
/-- A place of Empty is written. -/
theorem SetsM.setEmpty {w w' : World} {p be bf : Nat} {bs : List Nat} {m n : Nat} {gt gn gs : Int} {sl : Value} {cf : Nat} {e e' : List Bool} {f : List (List Bool)} (h : SetsM w p be bf bs m n gt gn gs sl cf e f) (k : Kept (fun b => b = be) w w') (hb : Blk' w' be 4 (bcells e')) (hl : e'.length = n) : SetsM w' p be bf bs m n gt gn gs sl cf e' f := by
  have hnd := h.nodup
  simp only [List.nodup_cons, List.mem_cons, not_or] at hnd
  obtain ⟨⟨n1, n2, n3⟩, ⟨n4, n5⟩, n6, n7⟩ := hnd
  exact ⟨h.ptr.kept k n1, hb, hl, h.flen, h.blen, fun j b hb' => (k.cell (p := ⟨bf, j, none⟩) h.bflt (fun e => n4 e.symm)).trans (h.outer j b hb'), fun j b row hjb hjr => ⟨(h.rows j b row hjb hjr).1.kept k (fun e' => n5 (e' ▸ List.mem_of_getElem? hjb)), (h.rows j b row hjb hjr).2⟩, h.nodup, Nat.lt_of_lt_of_le h.bflt k.size, h.cap⟩

/-- What first.Make returns: sets that no rule's step turns, out of some rounds over the rules. -/
def RetMake (g : Gram) (m n : Nat) (sl : Value) (w : World) (en : Ending) (w' : World) : Prop :=
  ∃ p be bf bs cf e f k, en = .returned (.pointer (some ⟨p, 0, none⟩)) ∧ SetsM w' p be bf bs m n g.terms g.nons g.start sl cf e f ∧ Shape m n (e, f) ∧ (e, f) = iterR m g.rules k (initS m n) ∧ (∀ q ∈ g.rules, stepR m q (e, f) = (e, f)) ∧ (∀ b ∈ p :: be :: bf :: bs, w.heap.size ≤ b) ∧ Below w.heap.size w w'
def MkO (w : World) (m n : Nat) (gt gn gs : Int) (rs : List Rule) (sl : Value) (bf : Nat) (bs : List Nat) (cf : Nat) (gk : Nat) (ag : Value) (wr : World) : Prop :=
  ∃ (k : Nat) (e : List Bool) (f : List (List Bool)) (b : Bool), ag = .bool b ∧ SetsM wr (w.heap.size + 2) (w.heap.size + 1) bf bs m n gt gn gs sl cf e f ∧ Shape m n (e, f) ∧ (e, f) = iterR m rs k (initS m n) ∧ (b = false → ∀ q ∈ rs, stepR m q (e, f) = (e, f)) ∧
    falses (e, f) + (if b then 1 else 0) ≤ gk ∧ Below w.heap.size w wr ∧ Blk' wr w.heap.size 24 #[.int .i64 gt, .int .i64 gn, .int .i64 gs, sl]
def MkI (w : World) (m n : Nat) (gt gn gs : Int) (rs : List Rule) (sl : Value) (bf : Nat) (bs : List Nat) (cf : Nat) (s0 : List Bool × List (List Bool)) (ag i : Value) (wr : World) : Prop :=
  ∃ (j : Nat) (e : List Bool) (f : List (List Bool)) (b : Bool), j ≤ rs.length ∧ i = .int .i64 j ∧ ag = .bool b ∧ SetsM wr (w.heap.size + 2) (w.heap.size + 1) bf bs m n gt gn gs sl cf e f ∧ Shape m n (e, f) ∧ (e, f) = passR m (rs.take j) s0 ∧
    (b = false → (e, f) = s0 ∧ ∀ q ∈ rs.take j, stepR m q s0 = s0) ∧ (b = true → falses (e, f) < falses s0) ∧ Below w.heap.size w wr ∧ Blk' wr w.heap.size 24 #[.int .i64 gt, .int .i64 gn, .int .i64 gs, sl]

theorem passR_snoc {m : Nat} {rs : List Rule} {j : Nat} {q : Rule} (h : rs[j]? = some q) (s0 : List Bool × List (List Bool)) : passR m (rs.take (j + 1)) s0 = stepR m q (passR m (rs.take j) s0) := by
  rw [take_snoc h]
  simp [passR]
theorem mkI_next {w w5 : World} {m n : Nat} {gt gn gs : Int} {rs : List Rule} {sl : Value} {bf : Nat} {bs : List Nat} {cf : Nat} {s0 : List Bool × List (List Bool)} {j : Nat} {e f e' f'} {b b' : Bool} {q : Rule} (hq : rs[j]? = some q) (hql : q.left.toNat < n) (hsh : Shape m n (e, f)) (hps : (e, f) = passR m (rs.take j) s0)
    (hb0 : b = false → (e, f) = s0 ∧ ∀ q ∈ rs.take j, stepR m q s0 = s0) (hb1 : b = true → falses (e, f) < falses s0) (hle : falses (e, f) ≤ falses s0) (hs : (e', f') = stepR m q (e, f)) (hM : SetsM w5 (w.heap.size + 2) (w.heap.size + 1) bf bs m n gt gn gs sl cf e' f')
    (hB : Below w.heap.size w w5) (hG : Blk' w5 w.heap.size 24 #[.int .i64 gt, .int .i64 gn, .int .i64 gs, sl]) (h0 : b' = false → b = false ∧ stepR m q (e, f) = (e, f)) (h1 : b' = true → b = true ∨ stepR m q (e, f) ≠ (e, f)) :
    MkI w m n gt gn gs rs sl bf bs cf s0 (.bool b') (.int .i64 ((j : Int) + 1)) w5 := by
  have hj := (List.getElem?_eq_some_iff.1 hq).1
  have hf := stepR_falses hsh q hql
  refine ⟨j + 1, e', f', b', hj, by go_num, rfl, hM, by rw [hs]; exact hsh.step q hql, by rw [hs, hps, passR_snoc hq], fun h => ?_, fun h => ?_, hB, hG⟩
  · obtain ⟨q1, q2⟩ := h0 h
    obtain ⟨q3, q4⟩ := hb0 q1
    refine ⟨by rw [hs, q2, q3], fun r hr => ?_⟩
    rw [take_snoc hq] at hr
    rcases List.mem_append.1 hr with hr | hr
    · exact q4 r hr
    · simp at hr
      subst hr
      rw [← q3]
      exact q2
  · rw [hs]
    rcases h1 h with q1 | q1
    · have := hb1 q1; omega
    · have := hf.2 q1; omega

def IfB (x b : Bool) (P : Prop) : Prop := b = x → P
theorem step_cases {m : Nat} {l : Int} {rr : List Sym} {e : List Bool} {f : List (List Bool)} {frow orow : List Bool} {ev em cv : Bool} (hfr : f[l.toNat]? = some frow) (hev : e[l.toNat]? = some ev) (ES : stepR m ⟨l, rr⟩ (e, f) = (if em then e.set l.toNat true else e, f.set l.toNat (orRow frow orow))) (hcv : cv = decide (orRow frow orow ≠ frow)) :
    (cv = false → (em = false ∨ ev = true) → stepR m ⟨l, rr⟩ (e, f) = (e, f)) ∧ (cv = true → stepR m ⟨l, rr⟩ (e, f) ≠ (e, f)) ∧ (em = true → ev = false → stepR m ⟨l, rr⟩ (e, f) ≠ (e, f)) := by
  rw [ES]
  refine ⟨fun h h2 => ?_, fun h hc => ?_, fun h h2 hc => ?_⟩
  · rw [h] at hcv
    have h3 : orRow frow orow = frow := by simpa using hcv.symm
    rw [h3, set_id hfr]
    rcases h2 with h2 | h2
    · rw [h2]; rfl
    · rw [h2] at hev; rw [set_id hev]; cases em <;> rfl
  · rw [h] at hcv
    have h3 : orRow frow orow ≠ frow := by simpa using hcv.symm
    have h4 := congrArg (fun s => s.2[l.toNat]?) hc
    simp only [List.getElem?_set] at h4
    rw [if_pos trivial, if_pos (List.getElem?_eq_some_iff.1 hfr).1, hfr] at h4
    injection h4 with h4
    exact h3 h4
  · rw [h] at hc
    have h4 := congrArg (fun s => s.1[l.toNat]?) hc
    simp only [if_true, List.getElem?_set] at h4
    rw [if_pos (List.getElem?_eq_some_iff.1 hev).1, hev, h2] at h4
    simp at h4

set_option maxRecDepth 100000 in
set_option maxHeartbeats 4000000 in
theorem make_any (g : Gram) (m n : Nat) (A : Option Addr) (c : Nat) (S : Nat → Prop) (w : World) (hgt : g.terms = (m : Int)) (hgn : g.nons = (n : Int)) (hm : m ≤ 100) (hn : 1 ≤ n ∧ n ≤ 100) (hlc : g.rules.length ≤ c) (hc : c ≤ 9223372036854775807) (hA : Els w S g.rules A) (hS : ∀ b, S b → b < w.heap.size)
    (hrl : g.rules.length ≤ 1000) (hrr : ∀ q ∈ g.rules, 0 ≤ q.left ∧ q.left < (n : Int) ∧ ∀ x ∈ q.right, 0 ≤ x.n ∧ if x.term then x.n < (m : Int) else x.n < (n : Int)) :
    Calls Tryd.prog 105 #[.agg #[.int .i64 g.terms, .int .i64 g.nons, .int .i64 g.start, .slice A g.rules.length c]] w (RetMake g m n (.slice A g.rules.length c) w) := by
  obtain ⟨gt, gn, gs, rs⟩ := g
  dsimp only at *
  subst hgt; subst hgn
  have HA := Lib.hid hA
  have HS := Lib.hid hS
  have HRR := Lib.hid hrr
  have HRL := Lib.hid hrl
  have HMN := Lib.hid (And.intro hm hn)
  have hmk : ∀ W, (Instr.makeSlice 53 (.int .i64 (n : Int)) (.int .i64 (n : Int))).run Tryd.prog W = .ok (.slice (some ⟨W.heap.size, 0, none⟩) n n) (W.alloc (.cells (bcells (List.replicate n false)) 4)) := make_eq n (by omega)
  have hmk2 : ∀ W, (Instr.makeSlice 53 (.int .i64 (m : Int)) (.int .i64 (m : Int))).run Tryd.prog W = .ok (.slice (some ⟨W.heap.size, 0, none⟩) m m) (W.alloc (.cells (bcells (List.replicate m false)) 4)) := make_eq m (by omega)
  have hn100 : n ≤ 1000000 := by omega
  have hm100 : m ≤ 1000000 := by omega
  have hn9 : (n : Int) ≤ 1000000 := by omega
  have hrl9 : rs.length ≤ 9223372036854775807 := by omega
  clear hA hS hrr hrl hm hn
  go_enter Tryd.func105, Tryd.ntmps105
  go_wp2_with fail
  go_region
  all_goals
    go_wp2_with fail
    have hb0 : Below w.heap.size w ((((w.alloc (.cells #[.int .i64 (m : Int), .int .i64 (n : Int), .int .i64 gs, .slice A rs.length c] 24)).alloc (.cells (bcells (List.replicate n false)) 4)).alloc (.cells #[.int .i64 (m : Int), .int .i64 (n : Int), .int .i64 gs, .slice A rs.length c, .slice (some ⟨w.heap.size + 1, 0, none⟩) n n, .slice none 0 0] 187)).drew) := ((((Below.refl _ _).alloc (Nat.le_refl _) _).alloc (by simp) _).alloc (by simp; omega) _).drew
    have hG0 : Blk' ((((w.alloc (.cells #[.int .i64 (m : Int), .int .i64 (n : Int), .int .i64 gs, .slice A rs.length c] 24)).alloc (.cells (bcells (List.replicate n false)) 4)).alloc (.cells #[.int .i64 (m : Int), .int .i64 (n : Int), .int .i64 gs, .slice A rs.length c, .slice (some ⟨w.heap.size + 1, 0, none⟩) n n, .slice none 0 0] 187)).drew) w.heap.size 24 #[.int .i64 (m : Int), .int .i64 (n : Int), .int .i64 gs, .slice A rs.length c] := (((Blk'.new w _ _).alloc _).alloc _).drew
    have hE0 : Blk' ((((w.alloc (.cells #[.int .i64 (m : Int), .int .i64 (n : Int), .int .i64 gs, .slice A rs.length c] 24)).alloc (.cells (bcells (List.replicate n false)) 4)).alloc (.cells #[.int .i64 (m : Int), .int .i64 (n : Int), .int .i64 gs, .slice A rs.length c, .slice (some ⟨w.heap.size + 1, 0, none⟩) n n, .slice none 0 0] 187)).drew) (w.heap.size + 1) 4 (bcells (List.replicate n false)) := ((Blk'.new' _ _ _ (by simp)).alloc _).drew
    have hP0 : Blk' ((((w.alloc (.cells #[.int .i64 (m : Int), .int .i64 (n : Int), .int .i64 gs, .slice A rs.length c] 24)).alloc (.cells (bcells (List.replicate n false)) 4)).alloc (.cells #[.int .i64 (m : Int), .int .i64 (n : Int), .int .i64 gs, .slice A rs.length c, .slice (some ⟨w.heap.size + 1, 0, none⟩) n n, .slice none 0 0] 187)).drew) (w.heap.size + 2) 187 #[.int .i64 (m : Int), .int .i64 (n : Int), .int .i64 gs, .slice A rs.length c, rowSl (w.heap.size + 1) n, .slice none 0 0] := (Blk'.new' _ _ _ (by simp)).drew
    have H0 := Lib.hid (And.intro hb0 (And.intro hG0 (And.intro hE0 hP0)))
    clear hb0 hG0 hE0 hP0
    go_loopw [17] (fun i wr => MkL w m n (m : Int) (n : Int) gs (.slice A rs.length c) i wr) (fun i _ => n - (intOf i).toNat)
    case atStart => exact ⟨_, [], 0, Nat.zero_le _, rfl, rfl, H0.out.1, H0.out.2.1, H0.out.2.2.1, H0.out.2.2.2, World.ownsRow_nil _ _ _ _, by simp, List.nodup_nil⟩
    case round =>
      obtain ⟨wo, hwo⟩ : ∃ wo : World, wo = wr := ⟨_, rfl⟩
      subst hwo
      obtain ⟨v, bs, k, hk, rfl, hbl, hb, hG, hE, hP, hrow, hbs, hnd⟩ := hrel
      have p5 : wo.cell? ⟨w.heap.size + 1 + 1, 5, none⟩ = some v := hP.cell 5
      have g0 : wo.cell? ⟨w.heap.size, 0, none⟩ = some (.int .i64 (m : Int)) := hG.cell 0
      have zp : w.heap.size + 1 + 1 < wo.heap.size := hP.lt
      have zp1 : w.heap.size + 1 + 1 < wo.heap.size + 1 := by omega
      have zg : w.heap.size < wo.heap.size := hG.lt
      have zg1 : w.heap.size < wo.heap.size + 1 := by omega
      have HB := Lib.hid (And.intro hb (And.intro hG (And.intro hE hP)))
      have HRw := Lib.hid (And.intro hrow (And.intro hbs (And.intro hnd hbl)))
      obtain ⟨Av, cv, e1⟩ := row_form hrow
      subst e1
      have hba : Below wo.heap.size wo (((wo.alloc (.cells (bcells (List.replicate m false)) 4)).alloc (.cells #[.slice (some ⟨wo.heap.size, 0, none⟩) m m] 53)).drew) := (((Below.refl _ _).alloc (Nat.le_refl _) _).alloc (by simp) _).drew
      have HR6 := Lib.hid (And.intro (row_below hrow hba) hba)
      have HV := Lib.hid hrow.lt
      clear hb hG hE hP hrow hbs hnd hba hbl H0
      by_cases hlt : k < n
      · have hcap1 : (k + 1) * 24 ≤ 140737488355328 := by omega
        have hcap2 : k + 1 ≤ 9223372036854775807 := by omega
        have hk0 : (0 : Int) ≤ (k : Int) := by omega
        have hk1 : (k : Int) < (n : Int) := by omega
        go_wp2_with fail
        go_region_law
          (first
          | (refine step_row1 (base := w.heap.size + 3) (by rfl) _ _ elemBools (by rfl) (by rfl) (by rfl) HR6.out.1 (u := .slice (some ⟨wo.heap.size, 0, none⟩) m m) (by rfl) (by have h := (Blk'.new' (g := wo.heap.size + 1) (wo.alloc (.cells (bcells (List.replicate m false)) 4)) 53 #[.slice (some ⟨wo.heap.size, 0, none⟩) m m] (by simp)).cell 0; exact h) (by rfl) hcap1 hcap2 (by simp; omega) ?_
             intro v' w7 hown7 hg7 hat7
             have hK7 : Kept (fun b => (Value.slice Av k cv).ownBlock = some b) wo w7 := (Kept.of_below _ HR6.out.2).grown hg7 (fun k hk => .inl hk)
             have hP7 := HB.out.2.2.2.kept hK7 (fun h => by have := (HV.out _ h).1; omega)
             have c7 := hP7.cell 5
             have f7 := hP7.frozen 5
             have hB7 := ((((Blk'.new wo 4 (bcells (List.replicate m false))).alloc (.cells #[.slice (some ⟨wo.heap.size, 0, none⟩) m m] 53)).drew).grown hg7 (fun e => by have := (HV.out _ e.symm).2; omega))
             obtain ⟨A7, k7, e7⟩ := row_form hown7
             subst e7
             have H7 := Lib.hid (And.intro hown7 (And.intro hat7 (And.intro hK7 (And.intro hP7 hB7))))
             clear hown7 hg7 hat7 hK7 hP7 hB7
             simp at c7))
        all_goals
          go_wp2
          go_roundw
          case rel => exact mk_next hlt HB.out HRw.out HV.out H7.out.1 H7.out.2.1 (by simp) H7.out.2.2.1 H7.out.2.2.2.1 H7.out.2.2.2.2
          case measure => simp [intOf]; omega
      · have hkn : k = n := by omega
        have hM0 : MkL w m n (m : Int) (n : Int) gs (.slice A rs.length c) (.int .i64 (n : Int)) wo := ⟨_, bs, k, hk, by rw [hkn], HRw.out.2.2.2, HB.out.1, HB.out.2.1, HB.out.2.2.1, HB.out.2.2.2, HRw.out.1, HRw.out.2.1, HRw.out.2.2.1⟩
        obtain ⟨bf, bs2, cf, hM, hb, hG, hge⟩ := sets_of_mk (by have := HMN.out; omega) hM0
        have HM := Lib.hid (And.intro hM (And.intro hb hG))
        have HGe := Lib.hid hge
        have HKn := Lib.hid hkn
        clear hM0 hM hb hG hge hkn p5 g0 zp zp1 zg zg1 HB HRw HR6 HV
        go_wp2_with fail
        go_loopg [4] (falses (initS m n) + 1) (fun gk ag wr => MkO w m n (m : Int) (n : Int) gs rs (.slice A rs.length c) bf bs2 cf gk ag wr)
        case atStart => exact ⟨0, _, _, true, rfl, HM.out.1, Shape.init m n, rfl, (fun h => by cases h), Nat.le_refl _, HM.out.2.1, HM.out.2.2⟩
        case round =>
          obtain ⟨w2, hw2⟩ : ∃ w2 : World, w2 = wr := ⟨_, rfl⟩
          subst hw2
          obtain ⟨kk, e0, f0, b, rfl, hM, hsh, hit, hcl, hfa, hb, hG⟩ := hrel
          have H2 := Lib.hid (And.intro hM (And.intro hsh (And.intro hit (And.intro hcl (And.intro hfa (And.intro hb hG))))))
          have g3 : w2.cell? ⟨w.heap.size, 3, none⟩ = some (.slice A rs.length c) := hG.cell 3
          clear hM hsh hit hcl hfa hb hG HM
          cases b
          · go_wp2
            go_ret
            exact ⟨w.heap.size + 2, w.heap.size + 1, bf, bs2, cf, e0, f0, kk, rfl, H2.out.1, H2.out.2.1, H2.out.2.2.1, H2.out.2.2.2.1 (by first | exact rfl | exact trivial), (fun b hb => by have := HGe.out b hb; omega), H2.out.2.2.2.2.2.1⟩
          · go_wp2_with fail
            go_loopw [4, 36] (fun ag i wr => MkI w m n (m : Int) (n : Int) gs rs (.slice A rs.length c) bf bs2 cf (e0, f0) ag i wr) (fun _ i _ => rs.length - (intOf i).toNat)
            case atStart => exact ⟨0, e0, f0, false, Nat.zero_le _, rfl, rfl, H2.out.1, H2.out.2.1, rfl, (fun _ => ⟨rfl, by simp⟩), (fun h => by cases h), H2.out.2.2.2.2.2.1, H2.out.2.2.2.2.2.2⟩
            case round =>
              obtain ⟨wi, hwi⟩ : ∃ wi : World, wi = wr := ⟨_, rfl⟩
              subst hwi
              obtain ⟨j, e, f, b, hj, rfl, rfl, hM, hsh, hps, hb0, hb1, hb, hG⟩ := hrel
              have H3 := Lib.hid (And.intro hM (And.intro hsh (And.intro hps (And.intro hb0 (And.intro hb1 (And.intro hb hG))))))
              clear hM hsh hps hb0 hb1 hb hG g3
              by_cases hlt : j < rs.length
              · obtain ⟨q, hq⟩ := get_some hlt
                obtain ⟨bq, oq, Aq, cq, rfl, hSb, hbs, hi, hrc, hcr, hEr, hc0, hc1⟩ := (HA.out.belowB H3.out.2.2.2.2.2.1 HS.out).rule hq
                obtain ⟨hl0, hl1, hsy⟩ := HRR.out q (List.mem_of_getElem? hq)
                have HQ := Lib.hid (And.intro hq (And.intro hl0 (And.intro hl1 hsy)))
                obtain ⟨l, rr⟩ := q
                dsimp only at hi hrc hcr hEr hc0 hc1 hl0 hl1
                have hj0 : (0 : Int) ≤ (j : Int) := by omega
                have hln : l.toNat < n := by omega
                have hlz : (l.toNat : Nat) < 1000000 := by omega
                obtain ⟨bi, hbi⟩ := get_some (show l.toNat < bs2.length by have := H3.out.1.blen; omega)
                obtain ⟨frow, hfr⟩ := get_some (show l.toNat < f.length by have := H3.out.1.flen; omega)
                obtain ⟨ev, hev⟩ := get_some (show l.toNat < e.length by have := H3.out.1.elen; omega)
                obtain ⟨orow, horow⟩ : ∃ o, o = (ofFrom e f (List.replicate m false) rr).1 := ⟨_, rfl⟩
                obtain ⟨em, hem⟩ : ∃ o, o = (ofFrom e f (List.replicate m false) rr).2 := ⟨_, rfl⟩
                obtain ⟨cv, hcv⟩ : ∃ o, o = decide (orRow frow orow ≠ frow) := ⟨_, rfl⟩
                have hol : orow.length = m := by rw [horow, ofFrom_len]; simp
                have HF := Lib.hid (And.intro hbi (And.intro hfr (And.intro hev (And.intro horow (And.intro hem (And.intro hcv hol))))))
                have hbx : Below wi.heap.size wi (wi.alloc (.cells #[.int .i64 l, .slice Aq rr.length cq] 60)) := (Below.refl _ _).alloc (Nat.le_refl _) _
                have HX := Lib.hid (And.intro (H3.out.1.below hbx) (And.intro hbx (hEr.below hbx)))
                have HSX : Hid (∀ b, S b → b < (wi.alloc (.cells #[.int .i64 l, .slice Aq rr.length cq] 60)).heap.size) := Lib.hid (fun b hb => by have := HS.out b hb; have := H3.out.2.2.2.2.2.1.size; simp; omega)
                have zw : w.heap.size + 1 + 1 < wi.heap.size := H3.out.1.ptr.lt
                have zbi : bi < wi.heap.size := H3.out.1.lt bi (by simp [List.mem_of_getElem? hbi])
                have zbf : bf < wi.heap.size := H3.out.1.bflt
                have zn : n ≤ 1000000 := hn100
                clear hq hsy hbi hfr hev horow hem hcv hol hbx hEr
                go_wp2_with fail
                refine (setsOf_any (w.heap.size + 2) (w.heap.size + 1) bf bs2 m n (m : Int) (n : Int) gs _ cf e f rr Aq cq S _ HX.out.1 rfl hm100 hn100 hrc hcr HX.out.2.2 HSX.out HQ.out.2.2.2).mono ?_
                rintro en w3 ⟨b0, rfl, hb0, hB0, hb3⟩
                have hM3 := HX.out.1.below hb3
                have hQ3 := (Blk'.new wi 60 #[.int .i64 l, .slice Aq rr.length cq]).below hb3 (by simp)
                have hbw : Below wi.heap.size wi w3 := HX.out.2.1.trans (hb3.mono (by simp))
                have hG3 := H3.out.2.2.2.2.2.2.below hbw H3.out.2.2.2.2.2.2.lt
                have hR3 := (hM3.rows _ _ _ HF.out.1 HF.out.2.1).1
                have hRl := (hM3.rows _ _ _ HF.out.1 HF.out.2.1).2
                rw [← HF.out.2.2.2.1] at hB0
                have p5 : w3.cell? ⟨w.heap.size + 1 + 1, 5, none⟩ = some (.slice (some ⟨bf, 0, none⟩) n cf) := hM3.ptr.cell 5
                have q0 : w3.cell? ⟨wi.heap.size, 0, none⟩ = some (.int .i64 l) := hQ3.cell 0
                have r0 : w3.cell? ⟨bf, l.toNat, none⟩ = some (.slice (some ⟨bi, 0, none⟩) m m) := hM3.outer _ _ HF.out.1
                have hb0' : wi.heap.size < b0 := by simp at hb0; omega
                have HEo := Lib.hid (els_of_blk (S := fun b => b = b0) (xs := orow) (orow.map fun x => [Value.bool x]) (hB0.drew) (bcells_flat orow) (by simp) (by intro i x cs hi hc; simp [hi] at hc; subst hc; rfl) rfl)
                have HR3 := Lib.hid (hR3.drew)
                have HU := Lib.hid (And.intro (show m = frow.length from hRl.symm) (And.intro (show m = orow.length from HF.out.2.2.2.2.2.2.symm) (And.intro (show orow.length ≤ frow.length by rw [hRl, HF.out.2.2.2.2.2.2]; exact Nat.le_refl _) (show orow.length ≤ 1000000 by rw [HF.out.2.2.2.2.2.2]; exact hm100))))
                have HNb : Hid (¬ bi = b0) := Lib.hid (by omega)
                have H4 := Lib.hid (And.intro hM3 (And.intro hQ3 (And.intro hbw hG3)))
                have zb3 : bi < w3.heap.size := hR3.lt
                have zq3 : wi.heap.size < w3.heap.size := hQ3.lt
                have HCV := Lib.hid HF.out.2.2.2.2.2.1
                have HES := Lib.hid (show stepR m ⟨l, rr⟩ (e, f) = (if em then e.set l.toNat true else e, f.set l.toNat (orRow frow orow)) by
                  simp only [stepR, List.getD_eq_getElem?_getD, HF.out.2.1, Option.getD_some]
                  rw [← HF.out.2.2.2.1, ← HF.out.2.2.2.2.1])
                have HSC := Lib.hid (step_cases (rr := rr) (m := m) HF.out.2.1 HF.out.2.2.1 HES.out HCV.out)
                have HI0 : Hid (IfB false b ((e, f) = (e0, f0) ∧ ∀ q ∈ rs.take j, stepR m q (e0, f0) = (e0, f0))) := Lib.hid H3.out.2.2.2.1
                have HI1 : Hid (IfB true b (falses (e, f) < falses (e0, f0))) := Lib.hid H3.out.2.2.2.2.1
                have HLe : Hid (falses (e, f) ≤ falses (e0, f0)) := Lib.hid (by
                  have q1 := H3.out.2.2.2.1
                  have q2 := H3.out.2.2.2.2.1
                  cases b
                  · rw [(q1 rfl).1]; exact Nat.le_refl _
                  · exact Nat.le_of_lt (q2 rfl))
                rw [← HF.out.2.2.2.2.1]
                clear hM3 hQ3 hbw hG3 hR3 hRl hB0 hb3 hb0 hc0 hc1
                cases cv
                all_goals
                  go_wp2_with fail
                  go_still_tail 9, (by kernel_rfl)
                  change wpList _ _ _ _ _ w3.drew
                  go_wp2_with fail
                  refine (union_any frow orow bi m (some ⟨b0, 0, none⟩) m m m (fun b => b = b0) _ HU.out.1 HU.out.2.1 HU.out.2.2.1 HU.out.2.2.2 HR3.out HEo.out HNb.out).mono ?_
                  rintro en w4 ⟨he4, hg4, hb4⟩
                  rw [← HCV.out] at he4
                  subst he4
                  have hk4 : Kept (fun b => b = bi) w3 w4 := ((Kept.refl _ w3).drew).grown hg4 (fun k hk => by injection hk with hk; exact .inl hk.symm)
                  have hM4 := H4.out.1.setRow HF.out.1 hk4 hb4 (by rw [orRow_len]; exact HU.out.1.symm)
                  have hQ4 := H4.out.2.1.kept hk4 (fun h => by omega)
                  have hG4 := H4.out.2.2.2.kept hk4 (fun h => by have := HGe.out bi (by simp [List.mem_of_getElem? HF.out.1]); omega)
                  have hbb := (H3.out.2.2.2.2.2.1.trans (H4.out.2.2.1.mono H3.out.2.2.2.2.2.1.size)).trans (hk4.to_below (B := w.heap.size) (fun b hb => by have := HGe.out bi (by simp [List.mem_of_getElem? HF.out.1]); omega) (by omega))
                  have p45 : w4.cell? ⟨w.heap.size + 1 + 1, 5, none⟩ = some (.slice (some ⟨bf, 0, none⟩) n cf) := hM4.ptr.cell 5
                  have p44 : w4.cell? ⟨w.heap.size + 1 + 1, 4, none⟩ = some (.slice (some ⟨w.heap.size + 1, 0, none⟩) n n) := hM4.ptr.cell 4
                  have q40 : w4.cell? ⟨wi.heap.size, 0, none⟩ = some (.int .i64 l) := hQ4.cell 0
                  have r40 : w4.cell? ⟨bf, l.toNat, none⟩ = some (.slice (some ⟨bi, 0, none⟩) m m) := hM4.outer _ _ HF.out.1
                  have e40 : w4.cell? ⟨w.heap.size + 1, l.toNat, none⟩ = some (.bool ev) := (hM4.empty.cell _).trans (bcells_get HF.out.2.2.1)
                  have ef4 := hM4.empty.frozen l.toNat
                  have zq4 := hQ4.lt
                  have zp4 : w.heap.size + 1 + 1 < w4.heap.size := hM4.ptr.lt
                  have H5 := Lib.hid (And.intro hM4 (And.intro hG4 hbb))
                  clear hg4 hb4 hk4 hM4 hQ4 hG4 hbb
                  all_goals
                    clear p5 q0 r0
                    cases em
                    · cases b
                      all_goals
                        go_wp2_with fail
                        go_quiet (fail)
                        go_wp2_with fail
                        go_roundw
                        case rel => exact mkI_next HQ.out.1 hln H3.out.2.1 H3.out.2.2.1 HI0.out HI1.out HLe.out (by rw [HES.out]; simp) (H5.out.1.below (bdrewN (Below.refl _ _))) (bdrewN H5.out.2.2) (H5.out.2.1.drewN _) (fun h => by first | exact absurd h (by decide) | exact ⟨rfl, HSC.out.1 (by simp) (by simp)⟩) (fun h => by first | exact absurd h (by decide) | exact .inl rfl | exact .inr (HSC.out.2.1 (by simp)))
                        case measure => simp [intOf]; omega
                    · cases ev
                      · cases b
                        all_goals
                          go_wp2_with fail
                          go_quiet (fail)
                          go_wp2_with fail
                          go_region
                          all_goals
                            go_wp2_with fail
                            go_roundw
                            case rel => exact mkI_next (e' := e.set l.toNat true) (f' := f.set l.toNat (orRow frow orow)) HQ.out.1 hln H3.out.2.1 H3.out.2.2.1 HI0.out HI1.out HLe.out (by rw [HES.out]; first | rfl | simp) ((H5.out.1.below (bdrewN (Below.refl _ _))).setEmpty ((Kept.refl (fun b => b = w.heap.size + 1) _).setCell (p := ⟨w.heap.size + 1, l.toNat, none⟩) (.inl rfl) _) (by have h := (H5.out.1.empty.drewN (nq + 1)).set_ l.toNat (.bool true); rw [bcells_set] at h; exact h) (by rw [List.length_set]; exact H5.out.1.elen)) ((bdrewN H5.out.2.2).setCell (p := ⟨w.heap.size + 1, l.toNat, none⟩) (by show w.heap.size ≤ w.heap.size + 1; omega) _) ((H5.out.2.1.drewN _).far (p := ⟨w.heap.size + 1, l.toNat, none⟩) (by show w.heap.size ≠ w.heap.size + 1; omega) _) (fun h => absurd h (by decide)) (fun _ => .inr (HSC.out.2.2 (by simp) (by simp)))
                            case measure => simp [intOf]; omega
                      · cases b
                        all_goals
                          go_wp2_with fail
                          go_quiet (fail)
                          go_wp2_with fail
                          go_roundw
                          case rel => exact mkI_next HQ.out.1 hln H3.out.2.1 H3.out.2.2.1 HI0.out HI1.out HLe.out (by rw [HES.out, set_id HF.out.2.2.1]; simp) (H5.out.1.below (bdrewN (Below.refl _ _))) (bdrewN H5.out.2.2) (H5.out.2.1.drewN _) (fun h => by first | exact absurd h (by decide) | exact ⟨rfl, HSC.out.1 (by simp) (by simp)⟩) (fun h => by first | exact absurd h (by decide) | exact .inl rfl | exact .inr (HSC.out.2.1 (by simp)))
                          case measure => simp [intOf]; omega
              · have E := Lib.hid (show rs.take j = rs from List.take_of_length_le (by omega))
                go_wp2_with fail
                go_roundg (falses (e, f) + (if b then 1 else 0))
                case measure =>
                  have h1 := H2.out.2.2.2.2.1
                  cases b
                  · have h2 := (H3.out.2.2.2.1 rfl).1
                    rw [h2]; simp at h1 ⊢; omega
                  · have h2 := H3.out.2.2.2.2.1 rfl
                    simp at h1 ⊢; omega
                case rel =>
                  refine ⟨kk + 1, e, f, b, rfl, H3.out.1, H3.out.2.1, ?_, fun h => ?_, Nat.le_refl _, H3.out.2.2.2.2.2.1, H3.out.2.2.2.2.2.2⟩
                  · have h := H3.out.2.2.1
                    rw [E.out] at h
                    rw [h, iterR, ← H2.out.2.2.1]
                  · have h2 := H3.out.2.2.2.1 h
                    rw [E.out] at h2
                    rw [h2.1]
                    exact h2.2
end Go.Proofs.YtjdojogjogenkaaDoor
