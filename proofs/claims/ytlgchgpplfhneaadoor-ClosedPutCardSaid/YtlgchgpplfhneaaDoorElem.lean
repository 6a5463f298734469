/- The element types of slices, off the program's tables. -/
import Derived.Test.YtlgchgpplfhneaaDoorData
import Derived.Test.YtlgchgpplfhneaaDoorChecked
namespace Go.Proofs.YtlgchgpplfhneaaDoor
open Go.RowKit
theorem infoInt : (Tryd.prog.info? 3).map (fun i => (i.zero, i.size, i.bytes)) = some (some (.int .i64 0), 1, 8) := by kernel_rfl
theorem elemInt : ElemT Tryd.prog Int 22 3 8 := by obtain ⟨i, h1, h2, h3, h4⟩ := info_parts infoInt; exact ⟨i, _, Tryd.underlying22, h1, h2, h3, h4, rfl⟩
theorem infoBool : (Tryd.prog.info? 4).map (fun i => (i.zero, i.size, i.bytes)) = some (some (.bool false), 1, 1) := by kernel_rfl
theorem elemBool : ElemT Tryd.prog Bool 86 4 1 := by obtain ⟨i, h1, h2, h3, h4⟩ := info_parts infoBool; exact ⟨i, _, Tryd.underlying86, h1, h2, h3, h4, rfl⟩
theorem infoSym : (Tryd.prog.info? 54).map (fun i => (i.zero, i.size, i.bytes)) = some (some (.agg #[.bool false, .int .i64 0]), 2, 16) := by kernel_rfl
theorem elemSym : ElemT Tryd.prog Sym 50 54 16 := by obtain ⟨i, h1, h2, h3, h4⟩ := info_parts infoSym; exact ⟨i, _, Tryd.underlying50, h1, h2, h3, h4, rfl⟩
theorem infoRule : (Tryd.prog.info? 52).map (fun i => (i.zero, i.size, i.bytes)) = some (some (.agg #[.int .i64 0, .slice none 0 0]), 2, 32) := by kernel_rfl
theorem elemRule : ElemT Tryd.prog Rule 23 52 32 := by obtain ⟨i, h1, h2, h3, h4⟩ := info_parts infoRule; exact ⟨i, _, Tryd.underlying23, h1, h2, h3, h4, rfl⟩
theorem infoTree : (Tryd.prog.info? 35).map (fun i => (i.zero, i.size, i.bytes)) = some (some (.agg #[.int .i64 0, .int .i64 0, .slice none 0 0]), 3, 40) := by kernel_rfl
theorem elemTree : ElemT Tryd.prog Tree 33 35 40 := by obtain ⟨i, h1, h2, h3, h4⟩ := info_parts infoTree; exact ⟨i, _, Tryd.underlying33, h1, h2, h3, h4, rfl⟩
theorem infoInts : (Tryd.prog.info? 22).map (fun i => (i.zero, i.size, i.bytes)) = some (some (.slice none 0 0), 1, 24) := by kernel_rfl
theorem elemInts : ElemT Tryd.prog (List Int) 74 22 24 := by obtain ⟨i, h1, h2, h3, h4⟩ := info_parts infoInts; exact ⟨i, _, Tryd.underlying74, h1, h2, h3, h4, rfl⟩
end Go.Proofs.YtlgchgpplfhneaaDoor
