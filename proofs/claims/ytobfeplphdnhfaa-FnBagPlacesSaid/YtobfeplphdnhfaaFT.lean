/- The readings of the program's types. No condition but each theorem's own. -/
import Derived.Test.YtobfeplphdnhfaaRows
import Derived.Test.YtobfeplphdnhfaaVCd
namespace Go.Proofs.YtobfeplphdnhfaaW.V
open Go Go.Proofs
set_option linter.unusedSimpArgs false
set_option linter.unusedVariables false
set_option maxRecDepth 8000
set_option maxHeartbeats 4000000

@[go_sem] theorem td3 : td Try.prog 3 = some ⟨.int .i64, 1, 8, [.int .i64 0], true⟩ := by kernel_rfl
@[go_sem] theorem td4 : td Try.prog 4 = some ⟨.bool, 1, 1, [.bool false], true⟩ := by kernel_rfl
@[go_sem] theorem td5 : td Try.prog 5 = some ⟨.int .u8, 1, 1, [.int .u8 0], true⟩ := by kernel_rfl
@[go_sem] theorem td9 : td Try.prog 9 = some ⟨.str, 1, 16, [.string ⟨#[]⟩], true⟩ := by kernel_rfl
@[go_sem] theorem td22 : td Try.prog 22 = some ⟨.slice 5, 1, 24, [.slice none 0 0], true⟩ := by kernel_rfl
@[go_sem] theorem td23 : td Try.prog 23 = some ⟨.slice 32, 1, 24, [.slice none 0 0], true⟩ := by kernel_rfl
@[go_sem] theorem td25 : td Try.prog 25 = some ⟨.st [(0, 3), (1, 23)], 2, 32, [.int .i64 0, .slice none 0 0], true⟩ := by kernel_rfl
@[go_sem] theorem td29 : td Try.prog 29 = some ⟨.slice 3, 1, 24, [.slice none 0 0], true⟩ := by kernel_rfl
@[go_sem] theorem td32 : td Try.prog 32 = some ⟨.st [(0, 3), (1, 3), (2, 9)], 3, 32, [.int .i64 0, .int .i64 0, .string ⟨#[]⟩], true⟩ := by kernel_rfl
@[go_sem] theorem td44 : td Try.prog 44 = some ⟨.slice 74, 1, 24, [.slice none 0 0], true⟩ := by kernel_rfl
@[go_sem] theorem td46 : td Try.prog 46 = some ⟨.st [(0, 3), (1, 44)], 2, 32, [.int .i64 0, .slice none 0 0], true⟩ := by kernel_rfl
@[go_sem] theorem td54 : td Try.prog 54 = some ⟨.ptr 69, 1, 8, [.pointer none], true⟩ := by kernel_rfl
@[go_sem] theorem td69 : td Try.prog 69 = some ⟨.st [(0, 22), (1, 3)], 2, 32, [.slice none 0 0, .int .i64 0], true⟩ := by kernel_rfl
@[go_sem] theorem td74 : td Try.prog 74 = some ⟨.st [(0, 3), (1, 3), (2, 9)], 3, 32, [.int .i64 0, .int .i64 0, .string ⟨#[]⟩], true⟩ := by kernel_rfl

theorem mix : Try.prog.follows .mixedOrders = true := by kernel_rfl

end Go.Proofs.YtobfeplphdnhfaaW.V

