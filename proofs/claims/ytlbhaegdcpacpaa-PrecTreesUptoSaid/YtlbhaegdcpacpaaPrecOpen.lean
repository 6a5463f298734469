/- Tables of operators: how they open out of an argument. -/
import Derived.Test.YtlbhaegdcpacpaaOpens
import Derived.Test.YtlbhaegdcpacpaaPrecData
namespace Go.Proofs.Ytlbhaegdcpacpaa
open Go.RowKit Go.ChangeShapes Go.WideShapes Go.Deep

instance instBlkLevel : Blk Level := ⟨fun r => 2 + Blk.blk r.ops⟩
instance instBlkTable : Blk Table := ⟨fun g => 5 + Blk.blk g.levels⟩
section
variable {P : Program}
theorem opens_level {t : TypeId} {f0 f1 : Field} (hs : P.underlying t = some (.struct #[f0, f1])) (hone : oneCellFields P #[f0, f1] = true) (hC : P.cellsOf t = 2) (h0 : Opens P Int f0.type) (h1 : Opens P (List Int) f1.type) : Opens P Level t := by
  intro H enc w base spare held fuel cs y h
  obtain ⟨n, ys, _, hy, hl, hyl, hf⟩ := trod_fields hs hone hC h
  match cs, hl, ys, hyl with
  | [c0, c1], _, [y0, y1], _ =>
    obtain ⟨z, ⟨hz, hz'⟩, hbz⟩ := h0 enc w base spare held n [c0] y0 (hf 0 f0 c0 y0 rfl rfl rfl)
    obtain ⟨r, hr, hbr⟩ := h1 enc w base spare held n [c1] y1 (hf 1 f1 c1 y1 rfl rfl rfl)
    obtain rfl : c0 = .int .i64 z := by simpa using hz
    obtain ⟨v, hv, hvl⟩ := rd_slice hr
    obtain rfl : c1 = v := by simpa using hv
    refine ⟨⟨z, r⟩, ⟨c1, rfl, hz', hvl⟩, ?_⟩
    rw [hy]
    have e1 : Blk.blk z = 1 := rfl
    simp only [List.map_cons, List.map_nil, Rows.uptoBulk, Rows.uptoBulkAll]
    show 2 + Blk.blk r ≤ _
    omega
theorem opens_table {t : TypeId} {f0 f1 f2 f3 f4 : Field} (hs : P.underlying t = some (.struct #[f0, f1, f2, f3, f4])) (hone : oneCellFields P #[f0, f1, f2, f3, f4] = true) (hC : P.cellsOf t = 5) (h0 : Opens P Int f0.type) (h1 : Opens P Int f1.type) (h2 : Opens P Int f2.type) (h3 : Opens P Int f3.type) (h4 : Opens P (List Level) f4.type) : Opens P Table t := by
  intro H enc w base spare held fuel cs y h
  obtain ⟨n, ys, _, hy, hl, hyl, hf⟩ := trod_fields hs hone hC h
  match cs, hl, ys, hyl with
  | [c0, c1, c2, c3, c4], _, [y0, y1, y2, y3, y4], _ =>
    obtain ⟨z0, ⟨hz0, hz0'⟩, hb0⟩ := h0 enc w base spare held n [c0] y0 (hf 0 f0 c0 y0 rfl rfl rfl)
    obtain ⟨z1, ⟨hz1, hz1'⟩, hb1⟩ := h1 enc w base spare held n [c1] y1 (hf 1 f1 c1 y1 rfl rfl rfl)
    obtain ⟨z2, ⟨hz2, hz2'⟩, hb2⟩ := h2 enc w base spare held n [c2] y2 (hf 2 f2 c2 y2 rfl rfl rfl)
    obtain ⟨z3, ⟨hz3, hz3'⟩, hb3⟩ := h3 enc w base spare held n [c3] y3 (hf 3 f3 c3 y3 rfl rfl rfl)
    obtain ⟨r, hr, hbr⟩ := h4 enc w base spare held n [c4] y4 (hf 4 f4 c4 y4 rfl rfl rfl)
    obtain rfl : c0 = .int .i64 z0 := by simpa using hz0
    obtain rfl : c1 = .int .i64 z1 := by simpa using hz1
    obtain rfl : c2 = .int .i64 z2 := by simpa using hz2
    obtain rfl : c3 = .int .i64 z3 := by simpa using hz3
    obtain ⟨v, hv, hvl⟩ := rd_slice hr
    obtain rfl : c4 = v := by simpa using hv
    refine ⟨⟨z0, z1, z2, z3, r⟩, ⟨c4, rfl, hz0', hz1', hz2', hz3', hvl⟩, ?_⟩
    rw [hy]
    have e0 : Blk.blk z0 = 1 := rfl
    have e1 : Blk.blk z1 = 1 := rfl
    have e2 : Blk.blk z2 = 1 := rfl
    have e3 : Blk.blk z3 = 1 := rfl
    simp only [List.map_cons, List.map_nil, Rows.uptoBulk, Rows.uptoBulkAll]
    show 5 + Blk.blk r ≤ _
    omega
end
theorem opensLevel : Opens Try.prog Level 81 := opens_level Try.underlying81 (by kernel_rfl) (by kernel_rfl) (opens_int Try.underlying3) opensInts
theorem opensLevels : Opens Try.prog (List Level) 22 := opens_slice Try.underlying22 (by kernel_rfl) opensLevel
theorem opensTable : Opens Try.prog Table 24 := opens_table Try.underlying24 (by kernel_rfl) (by kernel_rfl) (opens_int Try.underlying3) (opens_int Try.underlying3) (opens_int Try.underlying3) (opens_int Try.underlying3) opensLevels
end Go.Proofs.Ytlbhaegdcpacpaa
