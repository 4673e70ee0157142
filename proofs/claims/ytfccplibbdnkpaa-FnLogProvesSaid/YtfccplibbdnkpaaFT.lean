/- The readings of the program's types. No condition but each theorem's own. -/
import Derived.Test.YtfccplibbdnkpaaRows
import Derived.Test.YtfccplibbdnkpaaVCd
namespace Go.Proofs.YtfccplibbdnkpaaW.V
open Go Go.Proofs
set_option linter.unusedSimpArgs false
set_option linter.unusedVariables false
set_option maxRecDepth 8000
set_option maxHeartbeats 4000000

@[go_sem] theorem td3 : td Try.prog 3 = some ⟨.int .i64, 1, 8, [.int .i64 0], true⟩ := by kernel_rfl
@[go_sem] theorem td4 : td Try.prog 4 = some ⟨.bool, 1, 1, [.bool false], true⟩ := by kernel_rfl
@[go_sem] theorem td5 : td Try.prog 5 = some ⟨.int .u8, 1, 1, [.int .u8 0], true⟩ := by kernel_rfl
@[go_sem] theorem td9 : td Try.prog 9 = some ⟨.str, 1, 16, [.string ⟨#[]⟩], true⟩ := by kernel_rfl
@[go_sem] theorem td22 : td Try.prog 22 = some ⟨.slice 9, 1, 24, [.slice none 0 0], true⟩ := by kernel_rfl
@[go_sem] theorem td24 : td Try.prog 24 = some ⟨.st [(0, 22)], 1, 24, [.slice none 0 0], true⟩ := by kernel_rfl
@[go_sem] theorem td25 : td Try.prog 25 = some ⟨.int .u64, 1, 8, [.int .u64 0], true⟩ := by kernel_rfl
@[go_sem] theorem td27 : td Try.prog 27 = some ⟨.st [(0, 25), (1, 25), (2, 25), (3, 25)], 4, 32, [.int .u64 0, .int .u64 0, .int .u64 0, .int .u64 0], true⟩ := by kernel_rfl
@[go_sem] theorem td28 : td Try.prog 28 = some ⟨.slice 27, 1, 24, [.slice none 0 0], true⟩ := by kernel_rfl
@[go_sem] theorem td30 : td Try.prog 30 = some ⟨.st [(0, 3), (1, 3), (2, 3), (3, 3), (4, 27), (8, 3), (9, 28), (10, 22)], 11, 120, [.int .i64 0, .int .i64 0, .int .i64 0, .int .i64 0, .int .u64 0, .int .u64 0, .int .u64 0, .int .u64 0, .int .i64 0, .slice none 0 0, .slice none 0 0], true⟩ := by kernel_rfl
@[go_sem] theorem td33 : td Try.prog 33 = some ⟨.st [(0, 25), (1, 25), (2, 25), (3, 25)], 4, 32, [.int .u64 0, .int .u64 0, .int .u64 0, .int .u64 0], true⟩ := by kernel_rfl
@[go_sem] theorem td34 : td Try.prog 34 = some ⟨.slice 33, 1, 24, [.slice none 0 0], true⟩ := by kernel_rfl
@[go_sem] theorem td36 : td Try.prog 36 = some ⟨.st [(0, 3), (1, 3), (2, 3), (3, 3), (4, 33), (8, 3), (9, 34), (10, 22)], 11, 120, [.int .i64 0, .int .i64 0, .int .i64 0, .int .i64 0, .int .u64 0, .int .u64 0, .int .u64 0, .int .u64 0, .int .i64 0, .slice none 0 0, .slice none 0 0], true⟩ := by kernel_rfl
@[go_sem] theorem td39 : td Try.prog 39 = some ⟨.st [(0, 22)], 1, 24, [.slice none 0 0], true⟩ := by kernel_rfl
@[go_sem] theorem td47 : td Try.prog 47 = some ⟨.slice 5, 1, 24, [.slice none 0 0], true⟩ := by kernel_rfl
@[go_sem] theorem td56 : td Try.prog 56 = some ⟨.st [(0, 3), (1, 33)], 5, 40, [.int .i64 0, .int .u64 0, .int .u64 0, .int .u64 0, .int .u64 0], true⟩ := by kernel_rfl
@[go_sem] theorem td71 : td Try.prog 71 = some ⟨.ptr 77, 1, 8, [.pointer none], true⟩ := by kernel_rfl
@[go_sem] theorem td75 : td Try.prog 75 = some ⟨.ptr 106, 1, 8, [.pointer none], true⟩ := by kernel_rfl
@[go_sem] theorem td77 : td Try.prog 77 = some ⟨.st [(0, 75)], 1, 8, [.pointer none], true⟩ := by kernel_rfl
@[go_sem] theorem td85 : td Try.prog 85 = some ⟨.map 88 33, 1, 8, [.map none], true⟩ := by kernel_rfl
@[go_sem] theorem td88 : td Try.prog 88 = some ⟨.st [(0, 3), (1, 3)], 2, 16, [.int .i64 0, .int .i64 0], true⟩ := by kernel_rfl
@[go_sem] theorem td98 : td Try.prog 98 = some ⟨.slice 88, 1, 24, [.slice none 0 0], true⟩ := by kernel_rfl
@[go_sem] theorem td106 : td Try.prog 106 = some ⟨.st [(0, 47), (1, 3)], 2, 32, [.slice none 0 0, .int .i64 0], true⟩ := by kernel_rfl
@[go_sem] theorem td107 : td Try.prog 107 = some ⟨.slice 3, 1, 24, [.slice none 0 0], true⟩ := by kernel_rfl
@[go_sem] theorem td111 : td Try.prog 111 = some ⟨.st [], 0, 0, [], true⟩ := by kernel_rfl
@[go_sem] theorem td115 : td Try.prog 115 = some ⟨.int .u64, 1, 8, [.int .u64 0], true⟩ := by kernel_rfl
@[go_sem] theorem td131 : td Try.prog 131 = some ⟨.int .u32, 1, 4, [.int .u32 0], true⟩ := by kernel_rfl
@[go_sem] theorem td135 : td Try.prog 135 = some ⟨.slice 25, 1, 24, [.slice none 0 0], true⟩ := by kernel_rfl

theorem mix : Try.prog.follows .mixedOrders = true := by kernel_rfl

end Go.Proofs.YtfccplibbdnkpaaW.V

