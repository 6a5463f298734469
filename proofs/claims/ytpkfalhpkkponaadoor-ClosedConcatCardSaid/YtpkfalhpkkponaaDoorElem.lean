/- The element types of slices, off the program's tables. -/
import Derived.Test.YtpkfalhpkkponaaDoorData
import Derived.Test.YtpkfalhpkkponaaDoorChecked
namespace Go.Proofs.YtpkfalhpkkponaaDoor
open Go.RowKit
theorem infoInt : (Tryd.prog.info? 3).map (fun i => (i.zero, i.size, i.bytes)) = some (some (.int .i64 0), 1, 8) := by kernel_rfl
theorem elemInt : ElemT Tryd.prog Int 22 3 8 := by obtain ⟨i, h1, h2, h3, h4⟩ := info_parts infoInt; exact ⟨i, _, Tryd.underlying22, h1, h2, h3, h4, rfl⟩
theorem infoBool : (Tryd.prog.info? 4).map (fun i => (i.zero, i.size, i.bytes)) = some (some (.bool false), 1, 1) := by kernel_rfl
theorem elemBool : ElemT Tryd.prog Bool 59 4 1 := by obtain ⟨i, h1, h2, h3, h4⟩ := info_parts infoBool; exact ⟨i, _, Tryd.underlying59, h1, h2, h3, h4, rfl⟩
theorem infoSym : (Tryd.prog.info? 82).map (fun i => (i.zero, i.size, i.bytes)) = some (some (.agg #[.bool false, .int .i64 0]), 2, 16) := by kernel_rfl
theorem elemSym : ElemT Tryd.prog Sym 66 82 16 := by obtain ⟨i, h1, h2, h3, h4⟩ := info_parts infoSym; exact ⟨i, _, Tryd.underlying66, h1, h2, h3, h4, rfl⟩
theorem infoRule : (Tryd.prog.info? 68).map (fun i => (i.zero, i.size, i.bytes)) = some (some (.agg #[.int .i64 0, .slice none 0 0]), 2, 32) := by kernel_rfl
theorem elemRule : ElemT Tryd.prog Rule 23 68 32 := by obtain ⟨i, h1, h2, h3, h4⟩ := info_parts infoRule; exact ⟨i, _, Tryd.underlying23, h1, h2, h3, h4, rfl⟩
theorem infoInts : (Tryd.prog.info? 22).map (fun i => (i.zero, i.size, i.bytes)) = some (some (.slice none 0 0), 1, 24) := by kernel_rfl
theorem elemInts : ElemT Tryd.prog (List Int) 98 22 24 := by obtain ⟨i, h1, h2, h3, h4⟩ := info_parts infoInts; exact ⟨i, _, Tryd.underlying98, h1, h2, h3, h4, rfl⟩
theorem infoBools : (Tryd.prog.info? 59).map (fun i => (i.zero, i.size, i.bytes)) = some (some (.slice none 0 0), 1, 24) := by kernel_rfl
theorem elemBools : ElemT Tryd.prog (List Bool) 100 59 24 := by obtain ⟨i, h1, h2, h3, h4⟩ := info_parts infoBools; exact ⟨i, _, Tryd.underlying100, h1, h2, h3, h4, rfl⟩
end Go.Proofs.YtpkfalhpkkponaaDoor
