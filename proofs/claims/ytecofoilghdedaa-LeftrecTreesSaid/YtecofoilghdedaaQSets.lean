/- The memory of first.Sets; contract: its method Of. -/
import Derived.Test.YtecofoilghdedaaQUnion
import Derived.Test.YtecofoilghdedaaQp1
import Derived.Deep.RegionHeld3
namespace Go.Proofs.Ytecofoilghdedaa
open Go.RowKit
set_option linter.unusedVariables false

/-- A pointer to Sets: p its block, be that of Empty, bf that of First, bs those of First's rows. -/
structure SetsM (w : World) (p be bf : Nat) (bs : List Nat) (m n : Nat) (gt gn gs : Int) (sl : Value) (cf : Nat) (e : List Bool) (f : List (List Bool)) : Prop where
  ptr : Blk' w p 131 #[.int .i64 gt, .int .i64 gn, .int .i64 gs, sl, rowSl be n, .slice (some ⟨bf, 0, none⟩) n cf]
  empty : Blk' w be 4 (bcells e)
  elen : e.length = n
  flen : f.length = n
  blen : bs.length = n
  outer : ∀ (i b : Nat), bs[i]? = some b → w.cell? ⟨bf, i, none⟩ = some (rowSl b m)
  rows : ∀ (i b : Nat) (row : List Bool), bs[i]? = some b → f[i]? = some row → Blk' w b 4 (bcells row) ∧ row.length = m
  nodup : (p :: be :: bf :: bs).Nodup
  bflt : bf < w.heap.size
  cap : n ≤ cf ∧ cf ≤ 9223372036854775807
theorem SetsM.kept {X : Nat → Prop} {w w' : World} {p be bf : Nat} {bs : List Nat} {m n : Nat} {gt gn gs : Int} {sl : Value} {cf : Nat} {e : List Bool} {f : List (List Bool)} (h : SetsM w p be bf bs m n gt gn gs sl cf e f) (k : Kept X w w') (hx : ∀ b ∈ p :: be :: bf :: bs, ¬ X b) : SetsM w' p be bf bs m n gt gn gs sl cf e f :=
  ⟨h.ptr.kept k (hx _ (by simp)), h.empty.kept k (hx _ (by simp)), h.elen, h.flen, h.blen, fun i b hb => (k.cell (p := ⟨bf, i, none⟩) h.bflt (hx _ (by simp))).trans (h.outer i b hb),
    fun i b row hb hr => ⟨(h.rows i b row hb hr).1.kept k (hx _ (by simp [List.mem_of_getElem? hb])), (h.rows i b row hb hr).2⟩, h.nodup, Nat.lt_of_lt_of_le h.bflt k.size, h.cap⟩
theorem SetsM.below {w w' : World} {p be bf : Nat} {bs : List Nat} {m n : Nat} {gt gn gs : Int} {sl : Value} {cf : Nat} {e : List Bool} {f : List (List Bool)} (h : SetsM w p be bf bs m n gt gn gs sl cf e f) (k : Below w.heap.size w w') : SetsM w' p be bf bs m n gt gn gs sl cf e f :=
  h.kept (Kept.of_below (fun _ => False) k) (fun _ _ h => h)
theorem SetsM.lt {w : World} {p be bf : Nat} {bs : List Nat} {m n : Nat} {gt gn gs : Int} {sl : Value} {cf : Nat} {e : List Bool} {f : List (List Bool)} (h : SetsM w p be bf bs m n gt gn gs sl cf e f) : ∀ b ∈ p :: be :: bf :: bs, b < w.heap.size := by
  intro b hb
  rcases List.mem_cons.1 hb with rfl | hb
  · exact h.ptr.lt
  rcases List.mem_cons.1 hb with rfl | hb
  · exact h.empty.lt
  rcases List.mem_cons.1 hb with rfl | hb
  · exact h.bflt
  obtain ⟨i, hi, rfl⟩ := List.getElem_of_mem hb
  have h1 : i < f.length := by have := h.blen; have := h.flen; omega
  exact (h.rows i _ _ (List.getElem?_eq_getElem hi) (List.getElem?_eq_getElem h1)).1.lt
theorem bcells_flat : ∀ (l : List Bool), bcells l = (l.map fun x => [Value.bool x]).flatten.toArray := by
  intro l
  unfold bcells
  congr 1
  induction l with
  | nil => rfl
  | cons x l ih => simp only [List.map_cons, List.flatten_cons, ih]; rfl
/-- A made row is known whole. -/
theorem blk_of_made {w : World} {g n : Nat} {t : TypeId} (h : w.ownsRow g t 1 (.slice (some ⟨g, 0, none⟩) n n) n (madeCells #[.bool false] (n * 1)).toList) : Blk' w g t (bcells (List.replicate n false)) := by
  obtain ⟨h1, h2⟩ := h
  rcases h2 with ⟨h3, _⟩ | ⟨g', cap, cur, h3, h4, h5, h6, h7, h8, h9⟩
  · simp at h3
  · injection h3 with e1 e2 e3
    injection e1 with e1
    injection e1 with e1 _ _
    subst e1; subst e3
    rw [toList_madeCells_one] at h9
    have hc : cur = bcells (List.replicate n false) := by
      apply Array.ext'
      rw [List.take_of_length_le (by simp [h8])] at h9
      rw [h9]
      simp [bcells]
    unfold Blk'
    rw [h5, hc]

def OfL (e : List Bool) (f : List (List Bool)) (l : List Sym) (m : Nat) (w : World) (b0 : Nat) (i : Value) (wr : World) : Prop :=
  ∃ (k : Nat) (out : List Bool), k ≤ l.length ∧ i = .int .i64 k ∧ out.length = m ∧ ofFrom e f (List.replicate m false) l = ofFrom e f out (l.drop k) ∧ Below w.heap.size w wr ∧ Blk' wr b0 4 (bcells out)


set_option maxRecDepth 100000 in
set_option maxHeartbeats 4000000 in
theorem setsOf_any (p be bf : Nat) (bs : List Nat) (m n : Nat) (gt gn gs : Int) (sl : Value) (cf : Nat) (e : List Bool) (f : List (List Bool)) (l : List Sym) (A : Option Addr) (c : Nat) (S : Nat → Prop) (w : World)
    (hM : SetsM w p be bf bs m n gt gn gs sl cf e f) (hgt : gt = (m : Int)) (hm : m ≤ 1000000) (hn : n ≤ 1000000) (hll : l.length ≤ c) (hc : c ≤ 9223372036854775807) (hA : Els w S l A) (hS : ∀ b, S b → b < w.heap.size) (hin : ∀ x ∈ l, 0 ≤ x.n ∧ if x.term then x.n < (m : Int) else x.n < (n : Int)) :
    Calls Try.prog 70 #[.pointer (some ⟨p, 0, none⟩), .slice A l.length c] w fun en w' => ∃ b, en = .returned (.tuple #[rowSl b m, .bool (ofFrom e f (List.replicate m false) l).2]) ∧ w.heap.size ≤ b ∧ Blk' w' b 4 (bcells (ofFrom e f (List.replicate m false) l).1) ∧ Below w.heap.size w w' := by
  subst hgt
  have HM := Lib.hid hM
  have HA := Lib.hid hA
  have HS := Lib.hid hS
  have HIn := Lib.hid hin
  have Hmn := Lib.hid (And.intro hm hn)
  have hm2 : m ≤ 140737488355328 := by omega
  have p0 : w.cell? ⟨p, 0, none⟩ = some (.int .i64 (m : Int)) := hM.ptr.cell 0
  have hlm : l.length ≤ 9223372036854775807 := by omega
  obtain ⟨i0, hi, hz0, hz1, hz2⟩ := info_parts infoBool1
  clear hM hA hS hin hm hn
  go_enter Try.func70, Try.ntmps70
  go_wp2_with (at_make; refine wpList_make_full _ rfl _ _ 70 rfl w.heap.size 4 i0 (.bool false) 1 Try.underlying70 hi hz0 hz1 _ _ _ _ m rfl rfl rfl rfl (by rw [hz2]; omega) (by unfold maxLen; omega) (Nat.le_refl _) ?_; intro w1 hr1 hg1; have H1 := Lib.hid (And.intro (blk_of_made hr1) hg1); clear hr1 hg1)
  have HB1 : Hid (Below w.heap.size w w1) := Lib.hid ⟨H1.out.2.os, H1.out.2.tape, H1.out.2.output, H1.out.2.size, fun k hk => H1.out.2.block k hk (by simp)⟩
  clear p0
  go_loopw [17] (fun i wr => OfL e f l m w w.heap.size i wr) (fun i _ => l.length - (intOf i).toNat)
  case atStart => exact ⟨0, _, Nat.zero_le _, rfl, by simp, rfl, HB1.out, H1.out.1⟩
  case round =>
    obtain ⟨wo, hwo⟩ : ∃ wo : World, wo = wr := ⟨_, rfl⟩
    subst hwo
    obtain ⟨k, out, hk, rfl, hol, he, hb, hbk⟩ := hrel
    have HB := Lib.hid hb
    have HE := Lib.hid he
    have HO := Lib.hid hbk
    have HOl := Lib.hid hol
    have HMo := Lib.hid (HM.out.below hb)
    have hz := hbk.lt
    clear he hb hbk hol HB1 H1
    by_cases hlt : k < l.length
    · obtain ⟨x, hx⟩ := get_some hlt
      obtain ⟨b, o, rfl, hSb, hbs, hi64, hc0, hc1⟩ := (HA.out.belowB HB.out HS.out).sym hx
      have Hd := Lib.hid (drop_cons hx)
      have hxi := HIn.out x (List.mem_of_getElem? hx)
      obtain ⟨xt, xn⟩ := x
      dsimp only at *
      have hx0 : 0 ≤ xn := hxi.1
      have hk0 : (0 : Int) ≤ (k : Int) := by omega
      clear hx
      cases xt
      · have hxn : xn < (n : Int) := by simpa using hxi.2
        have hxnn : xn.toNat < n := by omega
        clear hxi
        obtain ⟨bi, hbi⟩ := get_some (show xn.toNat < bs.length by have := HM.out.blen; omega)
        obtain ⟨row, hrow⟩ := get_some (show xn.toNat < f.length by have := HM.out.flen; omega)
        obtain ⟨ev, hev⟩ := get_some (show xn.toNat < e.length by have := HM.out.elen; omega)
        have hR := HMo.out.rows _ _ _ hbi hrow
        have hRl := (HM.out.rows _ _ _ hbi hrow).1.lt
        have hpl := HM.out.ptr.lt
        have hel := HM.out.empty.lt
        have hfl := HM.out.bflt
        have HRow := Lib.hid (And.intro hrow (And.intro hev hR.2))
        have p5 : wo.cell? ⟨p, 5, none⟩ = some (.slice (some ⟨bf, 0, none⟩) n cf) := HMo.out.ptr.cell 5
        have p4 : wo.cell? ⟨p, 4, none⟩ = some (rowSl be n) := HMo.out.ptr.cell 4
        have f0 : wo.cell? ⟨bf, xn.toNat, none⟩ = some (rowSl bi m) := HMo.out.outer _ _ hbi
        have e0 : wo.cell? ⟨be, xn.toNat, none⟩ = some (.bool ev) := (HMo.out.empty.cell _).trans (bcells_get hev)
        unfold rowSl at p4 f0
        have hbo : Below wo.heap.size wo (wo.alloc (.cells #[.bool false, .int .i64 xn] 63)) := (Below.refl _ _).alloc (Nat.le_refl _) _
        have HEr := Lib.hid (els_of_blk (S := fun b => b = bi) (xs := row) (row.map fun x => [Value.bool x]) ((hR.1.below hbo hR.1.lt).drew) (bcells_flat row) (by simp) (by intro i x cs hi hc; simp [hi] at hc; subst hc; rfl) rfl)
        have HOd := Lib.hid ((HO.out.below hbo hz).drew)
        have hzl : w.heap.size < wo.heap.size := hz
        have hpo : p < wo.heap.size := by omega
        have hfo : bf < wo.heap.size := by omega
        have heo : be < wo.heap.size := by omega
        have hbio : bi < wo.heap.size := by omega
        have HNe : Hid (∀ b ∈ p :: be :: bf :: bs, ¬ b = w.heap.size) := Lib.hid (fun b hb h => by have := HM.out.lt b hb; omega)
        have HBi := Lib.hid (And.intro hbi (Blk'.new wo 63 #[.bool false, .int .i64 xn]))
        have E1 := Lib.hid (show ofFrom e f (List.replicate m false) l = if ev then ofFrom e f (orRow out row) (l.drop (k + 1)) else (orRow out row, false) by
          rw [HE.out, Hd.out, ofFrom]
          simp only [List.getD_eq_getElem?_getD, hrow, hev, Option.getD_some, Bool.false_eq_true, if_false])
        clear hrow hev hR hbi hbo Hd
        go_wp2_with fail
        go_region_held3 (fun w' => w'.cell? ⟨p, 5, none⟩ = some (.slice (some ⟨bf, 0, none⟩) n cf) ∧ w'.cell? ⟨bf, xn.toNat, none⟩ = some (.slice (some ⟨bi, 0, none⟩) m m) ∧ w'.cell? ⟨wo.heap.size, 1, none⟩ = some (.int .i64 xn)) (go_keep)
          (first
          | (go_at_call 75; refine (union_any out row w.heap.size m (some ⟨bi, 0, none⟩) m m m (fun b => b = bi) _ (by exact HOl.out.symm) (by exact HRow.out.2.2.symm) (by rw [HOl.out, HRow.out.2.2]; exact Nat.le_refl _) (by have := HRow.out.2.2; have := Hmn.out.1; omega) HOd.out HEr.out (by omega)).mono ?_; rintro en w2 ⟨rfl, hg2, hb2⟩; have hk2 : Kept (fun b => b = w.heap.size) wo w2 := (((Kept.refl _ wo).alloc _).drew).grown hg2 (fun k hk => by injection hk with hk; exact .inl hk.symm); have hM2 := HMo.out.kept hk2 HNe.out; have q5 : w2.cell? ⟨p, 5, none⟩ = some (.slice (some ⟨bf, 0, none⟩) n cf) := hM2.ptr.cell 5; have q4 : w2.cell? ⟨p, 4, none⟩ = some (.slice (some ⟨be, 0, none⟩) n n) := hM2.ptr.cell 4; have g0 : w2.cell? ⟨bf, xn.toNat, none⟩ = some (.slice (some ⟨bi, 0, none⟩) m m) := hM2.outer _ _ HBi.out.1; have x1 : w2.cell? ⟨wo.heap.size, 1, none⟩ = some (.int .i64 xn) := ((HBi.out.2.drew).grown hg2 (by simp; omega)).cell 1; have y0 : w2.cell? ⟨be, xn.toNat, none⟩ = some (.bool ev) := (hM2.empty.cell _).trans (bcells_get HRow.out.2.1); have H2 := Lib.hid (And.intro hb2 (hk2.to_below (B := w.heap.size) (fun b hb => by omega) (by omega))); clear hg2 hb2 hk2 hM2))
        have hl2 := HOl.out
        have hlo : (orRow out row).length = m := by rw [orRow_len]; exact hl2
        have HLo := Lib.hid hlo
        clear hl2 hlo p4 p5 f0 e0
        go_wp2_with fail
        go_quiet (fail)
        cases ev
        · go_wp2
          go_ret2
          exact ⟨w.heap.size, by rw [E1.out]; rfl, Nat.le_refl _, by rw [E1.out]; exact H2.out.1, bdrewN (HB.out.trans H2.out.2)⟩
        · go_wp2
          go_roundw
          case rel => exact ⟨k + 1, _, hlt, by go_num, HLo.out, by rw [E1.out]; rfl, bdrewN (HB.out.trans H2.out.2), H2.out.1.drewN _⟩
          case measure => simp [intOf]; omega
      · have hxn : xn < (m : Int) := by simpa using hxi.2
        have hxnn : xn.toNat < m := by omega
        clear hxi
        have E1 := Lib.hid (show ofFrom e f (List.replicate m false) l = (out.set xn.toNat true, false) by rw [HE.out, Hd.out, ofFrom]; simp)
        obtain ⟨ov, hov⟩ := get_some (show xn.toNat < out.length by have := HOl.out; omega)
        have o0 : wo.cell? ⟨w.heap.size, xn.toNat, none⟩ = some (.bool ov) := (HO.out.cell _).trans (bcells_get hov)
        have of0 := HO.out.frozen xn.toNat
        have HZ := Lib.hid ((HO.out.set_ xn.toNat (.bool true)).alloc (.cells #[.bool true, .int .i64 xn] 63))
        have HBz := Lib.hid ((HB.out.setCell (p := ⟨w.heap.size, xn.toNat, none⟩) (Nat.le_refl _) (.bool true)).alloc (by simp [World.setCell]; omega) (.cells #[.bool true, .int .i64 xn] 63))
        clear hov
        go_wp2
        go_ret2
        exact ⟨w.heap.size, by rw [E1.out]; rfl, Nat.le_refl _, by rw [E1.out]; have h := HZ.out; rw [bcells_set] at h; exact h, HBz.out⟩
    · have E1 := Lib.hid (show ofFrom e f (List.replicate m false) l = (out, true) by rw [HE.out, List.drop_of_length_le (by omega)]; rfl)
      go_wp2
      go_ret2
      exact ⟨w.heap.size, by rw [E1.out]; rfl, Nat.le_refl _, by rw [E1.out]; exact HO.out, HB.out⟩
end Go.Proofs.Ytecofoilghdedaa
