/- Tokens, three kinds, strings: how they read; the plain law of layout.Check and of where a line begins. -/
import Derived.Test.YtabehgggahnopaaElem
import Derived.Test.YtabehgggahnopaaOpen
import Derived.Test.YtabehgggahnopaaApp
import Derived.Laws.IdiomArrays
namespace Go.Proofs.Ytabehgggahnopaa
open Go.RowKit Go.ChangeShapes Go.WideShapes Go.Deep
set_option linter.unusedVariables false

structure Tok where
  kind : Int
  frm : Int
  tos : Int
deriving DecidableEq
structure K3 where
  k0 : Int
  k1 : Int
  k2 : Int
instance instDatTok : Dat Tok where
  size := 3
  wraps := true
  rd _ _ t cs := cs = [.int .i64 t.kind, .int .i64 t.frm, .int .i64 t.tos] ∧ I64 t.kind ∧ I64 t.frm ∧ I64 t.tos
  len h := by rw [h.1]; rfl
  pos := by decide
  flat h := by simp at h
  one h := by rw [h.1]; intro u hu; simp at hu; rcases hu with rfl | rfl | rfl <;> rfl
  keep _ _ h := h
instance instDatK3 : Dat K3 where
  size := 3
  wraps := true
  rd _ _ t cs := cs = [.int .i64 t.k0, .int .i64 t.k1, .int .i64 t.k2] ∧ I64 t.k0 ∧ I64 t.k1 ∧ I64 t.k2
  len h := by rw [h.1]; rfl
  pos := by decide
  flat h := by simp at h
  one h := by rw [h.1]; intro u hu; simp at hu; rcases hu with rfl | rfl | rfl <;> rfl
  keep _ _ h := h
instance instDatStr : Dat ByteArray where
  size := 1
  wraps := false
  rd _ _ s cs := cs = [.string s] ∧ s.size ≤ maxLen
  len h := by rw [h.1]; rfl
  pos := by decide
  flat _ := rfl
  one h := by rw [h.1]; intro u hu; simp at hu; subst hu; rfl
  keep _ _ h := h
instance instBlkTok : Blk Tok := ⟨fun _ => 3⟩
instance instBlkK3 : Blk K3 := ⟨fun _ => 3⟩
instance instBlkStr : Blk ByteArray := ⟨fun _ => 0⟩
theorem Vl.k3 {w : World} {S : Nat → Prop} {t : K3} {v : Value} (h : Vl w S t v) : v = .agg #[.int .i64 t.k0, .int .i64 t.k1, .int .i64 t.k2] ∧ I64 t.k0 ∧ I64 t.k1 ∧ I64 t.k2 := by
  obtain ⟨cs, ⟨rfl, h1⟩, hv⟩ := h
  exact ⟨hv, h1⟩
theorem Vl.str {w : World} {S : Nat → Prop} {s : ByteArray} {v : Value} (h : Vl w S s v) : v = .string s ∧ s.size ≤ 9223372036854775807 := by
  obtain ⟨cs, ⟨rfl, h1⟩, hv⟩ := h
  exact ⟨hv, by simpa [maxLen] using h1⟩
/-- A token of a slice, for a load. -/
theorem Els.tok {w : World} {S : Nat → Prop} {xs : List Tok} {A : Option Addr} (h : Els w S xs A) {k : Nat} {x : Tok} (hk : xs[k]? = some x) :
    ∃ b o, A = some ⟨b, o, none⟩ ∧ S b ∧ b < w.heap.size ∧ I64 x.kind ∧ I64 x.frm ∧ I64 x.tos ∧ w.cell? ⟨b, o + k * 3, none⟩ = some (.int .i64 x.kind) ∧ w.cell? ⟨b, o + k * 3 + 1, none⟩ = some (.int .i64 x.frm) ∧ w.cell? ⟨b, o + k * 3 + 1 + 1, none⟩ = some (.int .i64 x.tos) ∧ w.cell? ⟨b, o + k * 3 + 2, none⟩ = some (.int .i64 x.tos) := by
  obtain ⟨b, o, cs, hA, hS, hb, ⟨rfl, h1, h2, h3⟩, hat⟩ := h.at_ hk
  have hat' : At w b (o + k * 3) [.int .i64 x.kind, .int .i64 x.frm, .int .i64 x.tos] := hat
  exact ⟨b, o, hA, hS, hb, h1, h2, h3, hat'.c0, hat'.c1, hat'.c2, hat'.c2⟩
section
variable {P : Program}
theorem opens_tok {t : TypeId} {f0 f1 f2 : Field} (hs : P.underlying t = some (.struct #[f0, f1, f2])) (hone : oneCellFields P #[f0, f1, f2] = true) (hC : P.cellsOf t = 3) (h0 : Opens P Int f0.type) (h1 : Opens P Int f1.type) (h2 : Opens P Int f2.type) : Opens P Tok t := by
  intro H enc w base spare held fuel cs y h
  obtain ⟨n, ys, _, hy, hl, hyl, hf⟩ := trod_fields hs hone hC h
  match cs, hl, ys, hyl with
  | [c0, c1, c2], _, [y0, y1, y2], _ =>
    obtain ⟨z0, ⟨hz0, hz0'⟩, hb0⟩ := h0 enc w base spare held n [c0] y0 (hf 0 f0 c0 y0 rfl rfl rfl)
    obtain ⟨z1, ⟨hz1, hz1'⟩, hb1⟩ := h1 enc w base spare held n [c1] y1 (hf 1 f1 c1 y1 rfl rfl rfl)
    obtain ⟨z2, ⟨hz2, hz2'⟩, hb2⟩ := h2 enc w base spare held n [c2] y2 (hf 2 f2 c2 y2 rfl rfl rfl)
    obtain rfl : c0 = .int .i64 z0 := by simpa using hz0
    obtain rfl : c1 = .int .i64 z1 := by simpa using hz1
    obtain rfl : c2 = .int .i64 z2 := by simpa using hz2
    refine ⟨⟨z0, z1, z2⟩, ⟨rfl, hz0', hz1', hz2'⟩, ?_⟩
    rw [hy]
    have e0 : Blk.blk z0 = 1 := rfl
    have e1 : Blk.blk z1 = 1 := rfl
    have e2 : Blk.blk z2 = 1 := rfl
    simp only [List.map_cons, List.map_nil, Rows.uptoBulk, Rows.uptoBulkAll]
    show 3 ≤ _
    omega
theorem opens_k3 {t e : TypeId} (ht : P.underlying t = some (.array 3 e)) (hC : P.cellsOf t = 3) (he : P.underlying e = some (.int .i64)) (hce : P.cellsOf e = 1) (hl : ∀ {H : Type} (enc : TypeId × Value → H) (w : World) (base : Nat) (spare : Nat → Bool) (held : Bool) (fuel : Nat) (cs : List Value) (y : DataW H × List MemPlace), DataW.trod enc P w base spare held fuel t cs = some y → cs.length = 3) : Opens P K3 t := by
  intro H enc w base spare held fuel cs y h
  match cs, hl enc w base spare held fuel cs y h with
  | [c0, c1, c2], _ =>
    obtain ⟨y0, y1, y2, n, hy, h0, h1, h2⟩ := trod_array3 ht hce h
    obtain ⟨z0, ⟨hz0, hz0'⟩, hb0⟩ := opens_int he enc w base spare held n [c0] y0 h0
    obtain ⟨z1, ⟨hz1, hz1'⟩, hb1⟩ := opens_int he enc w base spare held n [c1] y1 h1
    obtain ⟨z2, ⟨hz2, hz2'⟩, hb2⟩ := opens_int he enc w base spare held n [c2] y2 h2
    obtain rfl : c0 = .int .i64 z0 := by simpa using hz0
    obtain rfl : c1 = .int .i64 z1 := by simpa using hz1
    obtain rfl : c2 = .int .i64 z2 := by simpa using hz2
    refine ⟨⟨z0, z1, z2⟩, ⟨rfl, hz0', hz1', hz2'⟩, ?_⟩
    rw [hy]
    have e0 : Blk.blk z0 = 1 := rfl
    have e1 : Blk.blk z1 = 1 := rfl
    have e2 : Blk.blk z2 = 1 := rfl
    simp only [Rows.uptoBulk, Rows.uptoBulkAll]
    show 3 ≤ _
    omega
theorem opens_str {t : TypeId} (ht : P.underlying t = some .string) : Opens P ByteArray t := by
  intro H enc w base spare held fuel cs y h
  obtain ⟨s, rfl, rfl, hw⟩ := DataW.trod_string ht h
  exact ⟨s, ⟨rfl, hw⟩, by simp [Blk.blk]⟩
end
theorem infoTok : (Try.prog.info? 28).map (fun i => (i.zero, i.size, i.bytes)) = some (some (.agg #[.int .i64 0, .int .i64 0, .int .i64 0]), 3, 24) := by kernel_rfl
theorem elemTok : ElemT Try.prog Tok 22 28 24 := by obtain ⟨i, h1, h2, h3, h4⟩ := info_parts infoTok; exact ⟨i, _, Try.underlying22, h1, h2, h3, h4, rfl⟩

/-! ### The plain law -/
def isK (k : K3) (n : Int) : Bool := decide (n = k.k0) || decide (n = k.k1) || decide (n = k.k2)
def twiceK (k : K3) : Bool := decide (k.k0 = k.k1) || decide (k.k0 = k.k2) || decide (k.k1 = k.k2)
def badT (n : Nat) (k : K3) (last : Int) (t : Tok) : Int := if t.frm < last ∨ t.tos ≤ t.frm ∨ (n : Int) < t.tos then 1 else if isK k t.kind then 3 else 0
def checkT (n : Nat) (k : K3) : Int → List Tok → Int
  | _, [] => 0
  | last, t :: l => if badT n k last t ≠ 0 then badT n k last t else checkT n k t.tos l
def checkL (s : ByteArray) (l : List Tok) (k : K3) : Int := if 4000 < s.size ∨ 400 < l.length then 2 else if twiceK k then 6 else checkT s.size k 0 l
/-- Where the line of a position begins. -/
def lnl (s : ByteArray) : Nat → Nat
  | 0 => 0
  | n + 1 => if s.data[n]! = 10 then n + 1 else lnl s n
theorem lnl_le (s : ByteArray) : ∀ n, lnl s n ≤ n
  | 0 => Nat.le_refl _
  | n + 1 => by
    unfold lnl
    split
    · exact Nat.le_refl _
    · exact Nat.le_succ_of_le (lnl_le s n)
theorem lnl_cut (s : ByteArray) (m : Nat) (hm : m ≤ s.size) : ∀ n, n ≤ m → lnl (s.extract 0 m) n = lnl s n
  | 0, _ => rfl
  | n + 1, h => by
    have h1 : (s.extract 0 m).data[n]! = s.data[n]! := by
      have hs : n < s.data.size := by show n < s.size; omega
      have he : n < (s.extract 0 m).data.size := by show n < (s.extract 0 m).size; rw [ByteArray.size_extract]; omega
      rw [getElem!_pos (s.extract 0 m).data n he, getElem!_pos s.data n hs]
      simp [ByteArray.data_extract]
    unfold lnl
    rw [h1, lnl_cut s m hm n (by omega)]
end Go.Proofs.Ytabehgggahnopaa
