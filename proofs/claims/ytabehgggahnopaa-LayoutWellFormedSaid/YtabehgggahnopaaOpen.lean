/- From the form's reading of an argument to plain data: what a reading gives, type by type, and how much of the bound it takes. -/
import Derived.Test.YtabehgggahnopaaRows
import Derived.Test.YtabehgggahnopaaData
import Derived.ProofKit
import Derived.Deep.Slices
import Derived.Deep.Fields
import Derived.ChangeSame
namespace Go.Proofs.Ytabehgggahnopaa
open Go.RowKit Go.ChangeShapes Go.WideShapes Go.Deep

class Blk (α : Type) where
  blk : α → Nat
instance instBlkInt : Blk Int := ⟨fun _ => 1⟩
instance instBlkBool : Blk Bool := ⟨fun _ => 1⟩
def blkAll {α : Type} [Blk α] : List α → Nat
  | [] => 0
  | x :: xs => Blk.blk x + blkAll xs
instance instBlkList {α : Type} [Blk α] : Blk (List α) := ⟨fun l => blkAll l + 1⟩
instance instBlkSym : Blk Sym := ⟨fun _ => 3⟩
instance instBlkRule : Blk Rule := ⟨fun r => 2 + Blk.blk r.right⟩
instance instBlkGram : Blk Gram := ⟨fun g => 4 + Blk.blk g.rules⟩
mutual
def blkTree : Tree → Nat
  | ⟨_, _, ks⟩ => 3 + blkTrees ks + 1
def blkTrees : List Tree → Nat
  | [] => 0
  | k :: ks => blkTree k + blkTrees ks
end
instance instBlkTree : Blk Tree := ⟨blkTree⟩
theorem blkTrees_eq : ∀ ks : List Tree, blkTrees ks = blkAll ks
  | [] => rfl
  | k :: ks => by rw [blkTrees, blkAll, blkTrees_eq ks]; rfl

def OldS (w : World) (b : Nat) : Prop := b < w.heap.size
/-- What the type t reads as. -/
def Opens (P : Program) (α : Type) [Dat α] [Blk α] (t : TypeId) : Prop :=
  ∀ {H : Type} (enc : TypeId × Value → H) (w : World) (base : Nat) (spare : Nat → Bool) (held : Bool) (fuel : Nat) (cs : List Value) (y : DataW H × List MemPlace),
    DataW.trod enc P w base spare held fuel t cs = some y → ∃ x : α, Dat.rd w (OldS w) x cs ∧ Blk.blk x ≤ Rows.uptoBulk y.1

theorem i64_of_wf {n : Int} (h : (Lit.int .i64 n).wf = true) : I64 n := by
  simpa [Lit.wf, IntKind.min, IntKind.max, IntKind.signed, IntKind.bits, I64] using h

section
variable {P : Program}
theorem opens_int {t : TypeId} (ht : P.underlying t = some (.int .i64)) : Opens P Int t := by
  intro H enc w base spare held fuel cs y h
  obtain ⟨n, rfl, rfl, hw⟩ := DataW.trod_int ht h
  exact ⟨n, ⟨rfl, i64_of_wf hw⟩, by simp [Rows.uptoBulk, Blk.blk]⟩
theorem opens_bool {t : TypeId} (ht : P.underlying t = some .bool) : Opens P Bool t := by
  intro H enc w base spare held fuel cs y h
  obtain ⟨n, rfl, rfl⟩ := DataW.trod_bool ht h
  exact ⟨n, rfl, by simp [Rows.uptoBulk, Blk.blk]⟩

theorem list_of_lt {α : Type} {R : Nat → α → Prop} : ∀ (n : Nat), (∀ i, i < n → ∃ x, R i x) → ∃ xs : List α, xs.length = n ∧ ∀ (i : Nat) (x : α), xs[i]? = some x → R i x
  | 0, _ => ⟨[], rfl, by simp⟩
  | n + 1, h => by
    obtain ⟨xs, hl, hx⟩ := list_of_lt n (fun i hi => h i (by omega))
    obtain ⟨x, hr⟩ := h n (by omega)
    refine ⟨xs ++ [x], by simp [hl], fun i y hi => ?_⟩
    rcases Nat.lt_or_ge i xs.length with h1 | h1
    · rw [List.getElem?_append_left h1] at hi; exact hx i y hi
    · have h2 : i = n := by have := (List.getElem?_eq_some_iff.1 hi).1; simp at this; omega
      subst h2
      rw [List.getElem?_append_right h1] at hi
      simp [hl] at hi
      subst hi; exact hr
theorem bulkAll_range {H : Type} {α : Type} [Blk α] (D : Nat → DataW H) : ∀ (xs : List α) (s : Nat), (∀ (i : Nat) (x : α), xs[i]? = some x → Blk.blk x ≤ Rows.uptoBulk (D (s + i))) → blkAll xs ≤ Rows.uptoBulkAll ((List.range' s xs.length).map D)
  | [], _, _ => by simp [blkAll]
  | x :: xs, s, h => by
    have h0 := h 0 x rfl
    have ih := bulkAll_range D xs (s + 1) (fun i y hi => by have := h (i + 1) y (by simpa using hi); rwa [show s + (i + 1) = s + 1 + i from by omega] at this)
    simp only [List.length_cons, List.range'_succ, List.map_cons, blkAll, Rows.uptoBulkAll]
    simp only [Nat.add_zero] at h0
    omega
theorem addr_add {b o n : Nat} : (⟨b, o, none⟩ : Addr).add n = ⟨b, o + n, none⟩ := by unfold Addr.add; split <;> simp_all
theorem els_of_cells {α : Type} [Dat α] {w : World} {base : Nat} {a : Addr} {len : Nat} {xs : List α} (_hl : xs.length = len)
    (h : ∀ (i : Nat) (x : α), xs[i]? = some x → ∃ cs, w.cells? base (a.add (i * Dat.size α)) (Dat.size α) = some cs ∧ Dat.rd w (OldS w) x cs) : Els w (OldS w) xs (some a) := by
  intro hne
  obtain ⟨x0, hx0⟩ : ∃ x, xs[0]? = some x := ⟨_, List.getElem?_eq_getElem (List.length_pos_iff.2 hne)⟩
  have hcell : ∀ (i : Nat) (x : α), xs[i]? = some x → ∃ cs, Dat.rd w (OldS w) x cs ∧ ∀ j u, cs[j]? = some u → w.cell? ((a.add (i * Dat.size α)).add j) = some u := by
    intro i x hi
    obtain ⟨cs, h1, h2⟩ := h i x hi
    obtain ⟨_, hcl, hat⟩ := World.cells?_some h1
    exact ⟨cs, h2, fun j u hu => (hat j (by have := (List.getElem?_eq_some_iff.1 hu).1; rwa [Dat.len h2] at this)).trans hu⟩
  obtain ⟨cs0, h1, h2⟩ := hcell 0 x0 hx0
  have hp : 0 < cs0.length := by rw [Dat.len h1]; exact Dat.pos
  have hc0 := h2 0 cs0[0] (List.getElem?_eq_getElem hp)
  have ha0 : (a.add (0 * Dat.size α)).add 0 = a := by simp [Addr.add]
  rw [ha0] at hc0
  obtain ⟨b, o, spot⟩ := a
  have hspot : spot = none := by simpa using World.cell?_spot hc0
  subst hspot
  have hb : b < w.heap.size := World.block_lt_of_cell? w _ hc0
  refine ⟨b, o, rfl, hb, fun i x hi => ?_⟩
  obtain ⟨cs, h3, h4⟩ := hcell i x hi
  exact ⟨cs, h3, fun j u hu => by have := h4 j u hu; rwa [addr_add, addr_add] at this⟩
theorem opens_slice {α : Type} [Dat α] [Blk α] {t e : TypeId} (ht : P.underlying t = some (.slice e)) (hC : P.cellsOf e = Dat.size α) (he : Opens P α e) : Opens P (List α) t := by
  intro H enc w base spare held fuel cs y h
  rcases open_slice ht h with ⟨rfl, rfl⟩ | ⟨a, len, cap, m, n, D, Pl, rfl, hb, hl, hm, hmm, rfl, hi⟩
  · exact ⟨[], ⟨none, 0, rfl, by simp, by simp, fun h => absurd rfl h⟩, by simp [Rows.uptoBulk, Blk.blk, blkAll]⟩
  · have hlm : len ≤ m := by rw [hmm]; split <;> omega
    obtain ⟨xs, hxl, hx⟩ := list_of_lt (R := fun i (x : α) => (∃ cs, w.cells? base (a.add (i * Dat.size α)) (Dat.size α) = some cs ∧ Dat.rd w (OldS w) x cs) ∧ Blk.blk x ≤ Rows.uptoBulk (D i)) len (fun i hil => by
      obtain ⟨cs', hc, ht'⟩ := hi i (by omega)
      obtain ⟨x, h1, h2⟩ := he enc w base spare held n cs' _ ht'
      rw [hC] at hc
      exact ⟨x, ⟨cs', hc, h1⟩, h2⟩)
    refine ⟨xs, ⟨some a, cap, by rw [hxl], by omega, hm, els_of_cells hxl fun i x hi => (hx i x hi).1⟩, ?_⟩
    have hb := bulkAll_range D xs 0 (fun i x hi => by simpa using (hx i x hi).2)
    rw [hxl, ← List.range_eq_range'] at hb
    simp only [Rows.uptoBulk, Blk.blk]
    omega

/-- The fields of a struct, each of one cell. -/
theorem trod_fields {H : Type} {enc : TypeId × Value → H} {w : World} {base : Nat} {spare : Nat → Bool} {held : Bool} {t : TypeId} {fs : Array Field} {fuel : Nat} {cs : List Value} {y : DataW H × List MemPlace} (hs : P.underlying t = some (.struct fs)) (hone : oneCellFields P fs = true) (hC : P.cellsOf t = fs.size)
    (h : DataW.trod enc P w base spare held fuel t cs = some y) :
    ∃ (n : Nat) (ys : List (DataW H × List MemPlace)), fuel = n + 1 ∧ y.1 = .agg (ys.map (·.1)) ∧ cs.length = fs.size ∧ ys.length = fs.size ∧
      ∀ (j : Nat) (f : Field) (c : Value) (z : DataW H × List MemPlace), fs[j]? = some f → cs[j]? = some c → ys[j]? = some z → DataW.trod enc P w base spare held n f.type [c] = some z := by
  obtain ⟨ys, n, hn, hy, hlen, hyl, hf⟩ := DataW.trod_struct hs h
  refine ⟨n, ys, hn, by rw [hy], hlen.trans hC, hyl, fun j f c z hj hc hz => ?_⟩
  obtain ⟨ho, hk⟩ := hone_of hone j f hj
  have h1 := hf j f hj
  rw [ho, hk] at h1
  obtain ⟨hlt, rfl⟩ := List.getElem?_eq_some_iff.1 hc
  have hone' : (cs.drop j).take 1 = [cs[j]] := by
    rw [List.drop_eq_getElem_cons hlt]
    rfl
  rw [hone'] at h1
  exact h1.trans hz

theorem opens_sym {t : TypeId} {f0 f1 : Field} (hs : P.underlying t = some (.struct #[f0, f1])) (hone : oneCellFields P #[f0, f1] = true) (hC : P.cellsOf t = 2) (h0 : Opens P Bool f0.type) (h1 : Opens P Int f1.type) : Opens P Sym t := by
  intro H enc w base spare held fuel cs y h
  obtain ⟨n, ys, _, hy, hl, hyl, hf⟩ := trod_fields hs hone hC h
  match cs, hl, ys, hyl with
  | [c0, c1], _, [y0, y1], _ =>
    obtain ⟨b, hb, _⟩ := h0 enc w base spare held n [c0] y0 (hf 0 f0 c0 y0 rfl rfl rfl)
    obtain ⟨z, ⟨hz, hz'⟩, _⟩ := h1 enc w base spare held n [c1] y1 (hf 1 f1 c1 y1 rfl rfl rfl)
    have hb1 : [c0] = [Value.bool b] := hb
    obtain rfl : c0 = .bool b := by simpa using hb1
    obtain rfl : c1 = .int .i64 z := by simpa using hz
    refine ⟨⟨b, z⟩, ⟨rfl, hz'⟩, ?_⟩
    have b0 : ∀ d : DataW H, 1 ≤ Rows.uptoBulk d := fun d => by
      cases d with
      | lit l => cases l <;> simp [Rows.uptoBulk]
      | _ => simp [Rows.uptoBulk]
    have := b0 y0.1
    have := b0 y1.1
    rw [hy]
    simp only [List.map_cons, List.map_nil, Rows.uptoBulk, Rows.uptoBulkAll, Blk.blk]
    omega
theorem opens_rule {t : TypeId} {f0 f1 : Field} (hs : P.underlying t = some (.struct #[f0, f1])) (hone : oneCellFields P #[f0, f1] = true) (hC : P.cellsOf t = 2) (h0 : Opens P Int f0.type) (h1 : Opens P (List Sym) f1.type) : Opens P Rule t := by
  intro H enc w base spare held fuel cs y h
  obtain ⟨n, ys, _, hy, hl, hyl, hf⟩ := trod_fields hs hone hC h
  match cs, hl, ys, hyl with
  | [c0, c1], _, [y0, y1], _ =>
    obtain ⟨z, ⟨hz, hz'⟩, hbz⟩ := h0 enc w base spare held n [c0] y0 (hf 0 f0 c0 y0 rfl rfl rfl)
    obtain ⟨r, hr, hbr⟩ := h1 enc w base spare held n [c1] y1 (hf 1 f1 c1 y1 rfl rfl rfl)
    obtain rfl : c0 = .int .i64 z := by simpa using hz
    obtain ⟨v, hv, hvl⟩ := rd_slice hr
    obtain rfl : c1 = v := by simpa using hv
    refine ⟨⟨z, r⟩, ⟨c1, rfl, hz', hvl⟩, ?_⟩
    rw [hy]
    have e1 : Blk.blk z = 1 := rfl
    simp only [List.map_cons, List.map_nil, Rows.uptoBulk, Rows.uptoBulkAll]
    show 2 + Blk.blk r ≤ _
    omega
theorem opens_gram {t : TypeId} {f0 f1 f2 f3 : Field} (hs : P.underlying t = some (.struct #[f0, f1, f2, f3])) (hone : oneCellFields P #[f0, f1, f2, f3] = true) (hC : P.cellsOf t = 4) (h0 : Opens P Int f0.type) (h1 : Opens P Int f1.type) (h2 : Opens P Int f2.type) (h3 : Opens P (List Rule) f3.type) : Opens P Gram t := by
  intro H enc w base spare held fuel cs y h
  obtain ⟨n, ys, _, hy, hl, hyl, hf⟩ := trod_fields hs hone hC h
  match cs, hl, ys, hyl with
  | [c0, c1, c2, c3], _, [y0, y1, y2, y3], _ =>
    obtain ⟨z0, ⟨hz0, hz0'⟩, hb0⟩ := h0 enc w base spare held n [c0] y0 (hf 0 f0 c0 y0 rfl rfl rfl)
    obtain ⟨z1, ⟨hz1, hz1'⟩, hb1⟩ := h1 enc w base spare held n [c1] y1 (hf 1 f1 c1 y1 rfl rfl rfl)
    obtain ⟨z2, ⟨hz2, hz2'⟩, hb2⟩ := h2 enc w base spare held n [c2] y2 (hf 2 f2 c2 y2 rfl rfl rfl)
    obtain ⟨r, hr, hbr⟩ := h3 enc w base spare held n [c3] y3 (hf 3 f3 c3 y3 rfl rfl rfl)
    obtain rfl : c0 = .int .i64 z0 := by simpa using hz0
    obtain rfl : c1 = .int .i64 z1 := by simpa using hz1
    obtain rfl : c2 = .int .i64 z2 := by simpa using hz2
    obtain ⟨v, hv, hvl⟩ := rd_slice hr
    obtain rfl : c3 = v := by simpa using hv
    refine ⟨⟨z0, z1, z2, r⟩, ⟨c3, rfl, hz0', hz1', hz2', hvl⟩, ?_⟩
    rw [hy]
    have e0 : Blk.blk z0 = 1 := rfl
    have e1 : Blk.blk z1 = 1 := rfl
    have e2 : Blk.blk z2 = 1 := rfl
    simp only [List.map_cons, List.map_nil, Rows.uptoBulk, Rows.uptoBulkAll]
    show 4 + Blk.blk r ≤ _
    omega

/-- An argument, opened. -/
theorem open_arg_struct {H : Type} {enc : TypeId × Value → H} {w : World} {base b0 : Nat} {r : Reach} {spare : Nat → Bool} {held : Bool} {α : Type} [Dat α] [Blk α] {t : TypeId} {fs : Array Field} {v : Value} {d : DataW H} {p : List MemPlace} (hw : Dat.wraps α = true) (hs : P.underlying t = some (.struct fs)) (hO : Opens P α t)
    (hv : Value.okWide P w r b0 t v) (h : DataW.Trod enc P w base spare held t v d p) : ∃ x : α, Vl w (OldS w) x v ∧ Blk.blk x ≤ Rows.uptoBulk d := by
  obtain ⟨cs, rfl, _⟩ := okWide_struct hs hv
  obtain ⟨fuel, hf⟩ := h
  obtain ⟨x, h1, h2⟩ := hO enc w base spare held fuel _ _ hf
  exact ⟨x, ⟨_, h1, by rw [if_pos hw]; rfl⟩, h2⟩
theorem open_arg_slice {H : Type} {enc : TypeId × Value → H} {w : World} {base b0 : Nat} {r : Reach} {spare : Nat → Bool} {held : Bool} {α : Type} [Dat α] [Blk α] {t e : TypeId} {v : Value} {d : DataW H} {p : List MemPlace} (hs : P.underlying t = some (.slice e)) (hO : Opens P (List α) t)
    (hv : Value.okWide P w r b0 t v) (h : DataW.Trod enc P w base spare held t v d p) : ∃ x : List α, Vl w (OldS w) x v ∧ Blk.blk x ≤ Rows.uptoBulk d := by
  obtain ⟨a, len, cap, rfl⟩ := okWide_slice hs hv
  obtain ⟨fuel, hf⟩ := h
  obtain ⟨x, h1, h2⟩ := hO enc w base spare held fuel _ _ hf
  exact ⟨x, ⟨_, h1, rfl⟩, h2⟩
theorem open_arg_int {H : Type} {enc : TypeId × Value → H} {w : World} {base b0 : Nat} {r : Reach} {spare : Nat → Bool} {held : Bool} {t : TypeId} {v : Value} {d : DataW H} {p : List MemPlace} (hs : P.underlying t = some (.int .i64))
    (hv : Value.okWide P w r b0 t v) (h : DataW.Trod enc P w base spare held t v d p) : ∃ x : Int, Vl w (OldS w) x v ∧ Blk.blk x ≤ Rows.uptoBulk d := by
  obtain ⟨n, rfl⟩ := okWide_int hs hv
  obtain ⟨fuel, hf⟩ := h
  obtain ⟨x, h1, h2⟩ := opens_int hs enc w base spare held fuel _ _ hf
  exact ⟨x, ⟨_, h1, rfl⟩, h2⟩
end
theorem blk_len {α : Type} [Blk α] (hb : ∀ x : α, 1 ≤ Blk.blk x) : ∀ (xs : List α), xs.length ≤ blkAll xs
  | [] => by simp [blkAll]
  | x :: xs => by have := blk_len hb xs; have := hb x; simp only [List.length_cons, blkAll]; omega
theorem upto_bound {H : Type} {l : List (DataW H)} (hk : Rows.uptoSmall H l = true) : Rows.uptoBulkAll l ≤ 1048576 := by
  simpa [Rows.uptoSmall] using hk
end Go.Proofs.Ytabehgggahnopaa
