/- The element types of slices, off the program's tables. -/
import Derived.Test.YtabehgggahnopaaData
import Derived.Test.YtabehgggahnopaaChecked
namespace Go.Proofs.Ytabehgggahnopaa
open Go.RowKit
theorem infoInt : (Try.prog.info? 3).map (fun i => (i.zero, i.size, i.bytes)) = some (some (.int .i64 0), 1, 8) := by kernel_rfl
theorem elemInt : ElemT Try.prog Int 38 3 8 := by obtain ⟨i, h1, h2, h3, h4⟩ := info_parts infoInt; exact ⟨i, _, Try.underlying38, h1, h2, h3, h4, rfl⟩
theorem infoBool : (Try.prog.info? 4).map (fun i => (i.zero, i.size, i.bytes)) = some (some (.bool false), 1, 1) := by kernel_rfl
theorem elemBool : ElemT Try.prog Bool 119 4 1 := by obtain ⟨i, h1, h2, h3, h4⟩ := info_parts infoBool; exact ⟨i, _, Try.underlying119, h1, h2, h3, h4, rfl⟩
theorem infoSym : (Try.prog.info? 95).map (fun i => (i.zero, i.size, i.bytes)) = some (some (.agg #[.bool false, .int .i64 0]), 2, 16) := by kernel_rfl
theorem elemSym : ElemT Try.prog Sym 91 95 16 := by obtain ⟨i, h1, h2, h3, h4⟩ := info_parts infoSym; exact ⟨i, _, Try.underlying91, h1, h2, h3, h4, rfl⟩
theorem infoRule : (Try.prog.info? 93).map (fun i => (i.zero, i.size, i.bytes)) = some (some (.agg #[.int .i64 0, .slice none 0 0]), 2, 32) := by kernel_rfl
theorem elemRule : ElemT Try.prog Rule 47 93 32 := by obtain ⟨i, h1, h2, h3, h4⟩ := info_parts infoRule; exact ⟨i, _, Try.underlying47, h1, h2, h3, h4, rfl⟩
theorem infoTree : (Try.prog.info? 41).map (fun i => (i.zero, i.size, i.bytes)) = some (some (.agg #[.int .i64 0, .int .i64 0, .slice none 0 0]), 3, 40) := by kernel_rfl
theorem elemTree : ElemT Try.prog Tree 39 41 40 := by obtain ⟨i, h1, h2, h3, h4⟩ := info_parts infoTree; exact ⟨i, _, Try.underlying39, h1, h2, h3, h4, rfl⟩
theorem infoInts : (Try.prog.info? 38).map (fun i => (i.zero, i.size, i.bytes)) = some (some (.slice none 0 0), 1, 24) := by kernel_rfl
theorem elemInts : ElemT Try.prog (List Int) 117 38 24 := by obtain ⟨i, h1, h2, h3, h4⟩ := info_parts infoInts; exact ⟨i, _, Try.underlying117, h1, h2, h3, h4, rfl⟩
theorem infoBools : (Try.prog.info? 119).map (fun i => (i.zero, i.size, i.bytes)) = some (some (.slice none 0 0), 1, 24) := by kernel_rfl
theorem elemBools : ElemT Try.prog (List Bool) 120 119 24 := by obtain ⟨i, h1, h2, h3, h4⟩ := info_parts infoBools; exact ⟨i, _, Try.underlying120, h1, h2, h3, h4, rfl⟩
end Go.Proofs.Ytabehgggahnopaa
