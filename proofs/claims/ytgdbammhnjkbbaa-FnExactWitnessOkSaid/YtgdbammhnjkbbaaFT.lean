/- The readings of the program's types. No condition but each theorem's own. -/
import Derived.Test.YtgdbammhnjkbbaaRows
import Derived.Test.YtgdbammhnjkbbaaVCd
namespace Go.Proofs.YtgdbammhnjkbbaaW.V
open Go Go.Proofs
set_option linter.unusedSimpArgs false
set_option linter.unusedVariables false
set_option maxRecDepth 8000
set_option maxHeartbeats 4000000

@[go_sem] theorem td3 : td Try.prog 3 = some ⟨.int .i64, 1, 8, [.int .i64 0], true⟩ := by kernel_rfl
@[go_sem] theorem td4 : td Try.prog 4 = some ⟨.bool, 1, 1, [.bool false], true⟩ := by kernel_rfl
@[go_sem] theorem td5 : td Try.prog 5 = some ⟨.int .u8, 1, 1, [.int .u8 0], true⟩ := by kernel_rfl
@[go_sem] theorem td9 : td Try.prog 9 = some ⟨.str, 1, 16, [.string ⟨#[]⟩], true⟩ := by kernel_rfl
@[go_sem] theorem td22 : td Try.prog 22 = some ⟨.int .u64, 1, 8, [.int .u64 0], true⟩ := by kernel_rfl
@[go_sem] theorem td24 : td Try.prog 24 = some ⟨.st [(0, 22), (1, 22), (2, 22), (3, 22)], 4, 32, [.int .u64 0, .int .u64 0, .int .u64 0, .int .u64 0], true⟩ := by kernel_rfl
@[go_sem] theorem td26 : td Try.prog 26 = some ⟨.st [(0, 22), (1, 22), (2, 22), (3, 24)], 7, 56, [.int .u64 0, .int .u64 0, .int .u64 0, .int .u64 0, .int .u64 0, .int .u64 0, .int .u64 0], true⟩ := by kernel_rfl
@[go_sem] theorem td28 : td Try.prog 28 = some ⟨.st [(0, 26), (7, 26)], 14, 112, [.int .u64 0, .int .u64 0, .int .u64 0, .int .u64 0, .int .u64 0, .int .u64 0, .int .u64 0, .int .u64 0, .int .u64 0, .int .u64 0, .int .u64 0, .int .u64 0, .int .u64 0, .int .u64 0], true⟩ := by kernel_rfl
@[go_sem] theorem td29 : td Try.prog 29 = some ⟨.slice 68, 1, 24, [.slice none 0 0], true⟩ := by kernel_rfl
@[go_sem] theorem td31 : td Try.prog 31 = some ⟨.st [(0, 22), (1, 22), (2, 22), (3, 22)], 4, 32, [.int .u64 0, .int .u64 0, .int .u64 0, .int .u64 0], true⟩ := by kernel_rfl
@[go_sem] theorem td33 : td Try.prog 33 = some ⟨.st [(0, 22), (1, 22), (2, 22), (3, 31)], 7, 56, [.int .u64 0, .int .u64 0, .int .u64 0, .int .u64 0, .int .u64 0, .int .u64 0, .int .u64 0], true⟩ := by kernel_rfl
@[go_sem] theorem td35 : td Try.prog 35 = some ⟨.st [(0, 33), (7, 33)], 14, 112, [.int .u64 0, .int .u64 0, .int .u64 0, .int .u64 0, .int .u64 0, .int .u64 0, .int .u64 0, .int .u64 0, .int .u64 0, .int .u64 0, .int .u64 0, .int .u64 0, .int .u64 0, .int .u64 0], true⟩ := by kernel_rfl
@[go_sem] theorem td41 : td Try.prog 41 = some ⟨.slice 104, 1, 24, [.slice none 0 0], true⟩ := by kernel_rfl
@[go_sem] theorem td43 : td Try.prog 43 = some ⟨.st [(0, 28), (14, 41)], 15, 136, [.int .u64 0, .int .u64 0, .int .u64 0, .int .u64 0, .int .u64 0, .int .u64 0, .int .u64 0, .int .u64 0, .int .u64 0, .int .u64 0, .int .u64 0, .int .u64 0, .int .u64 0, .int .u64 0, .slice none 0 0], true⟩ := by kernel_rfl
@[go_sem] theorem td46 : td Try.prog 46 = some ⟨.slice 81, 1, 24, [.slice none 0 0], true⟩ := by kernel_rfl
@[go_sem] theorem td48 : td Try.prog 48 = some ⟨.st [(0, 35), (14, 46)], 15, 136, [.int .u64 0, .int .u64 0, .int .u64 0, .int .u64 0, .int .u64 0, .int .u64 0, .int .u64 0, .int .u64 0, .int .u64 0, .int .u64 0, .int .u64 0, .int .u64 0, .int .u64 0, .int .u64 0, .slice none 0 0], true⟩ := by kernel_rfl
@[go_sem] theorem td52 : td Try.prog 52 = some ⟨.slice 5, 1, 24, [.slice none 0 0], true⟩ := by kernel_rfl
@[go_sem] theorem td56 : td Try.prog 56 = some ⟨.st [(0, 3), (1, 3), (2, 31)], 6, 48, [.int .i64 0, .int .i64 0, .int .u64 0, .int .u64 0, .int .u64 0, .int .u64 0], true⟩ := by kernel_rfl
@[go_sem] theorem td68 : td Try.prog 68 = some ⟨.st [(0, 3), (1, 3), (2, 22)], 3, 24, [.int .i64 0, .int .i64 0, .int .u64 0], true⟩ := by kernel_rfl
@[go_sem] theorem td71 : td Try.prog 71 = some ⟨.slice 73, 1, 24, [.slice none 0 0], true⟩ := by kernel_rfl
@[go_sem] theorem td73 : td Try.prog 73 = some ⟨.ptr 22, 1, 8, [.pointer none], true⟩ := by kernel_rfl
@[go_sem] theorem td78 : td Try.prog 78 = some ⟨.st [(0, 3), (1, 31)], 5, 40, [.int .i64 0, .int .u64 0, .int .u64 0, .int .u64 0, .int .u64 0], true⟩ := by kernel_rfl
@[go_sem] theorem td81 : td Try.prog 81 = some ⟨.st [(0, 3), (1, 3), (2, 78)], 7, 56, [.int .i64 0, .int .i64 0, .int .i64 0, .int .u64 0, .int .u64 0, .int .u64 0, .int .u64 0], true⟩ := by kernel_rfl
@[go_sem] theorem td85 : td Try.prog 85 = some ⟨.ptr 108, 1, 8, [.pointer none], true⟩ := by kernel_rfl
@[go_sem] theorem td89 : td Try.prog 89 = some ⟨.slice 3, 1, 24, [.slice none 0 0], true⟩ := by kernel_rfl
@[go_sem] theorem td91 : td Try.prog 91 = some ⟨.slice 33, 1, 24, [.slice none 0 0], true⟩ := by kernel_rfl
@[go_sem] theorem td97 : td Try.prog 97 = some ⟨.st [], 0, 0, [], true⟩ := by kernel_rfl
@[go_sem] theorem td99 : td Try.prog 99 = some ⟨.ptr 33, 1, 8, [.pointer none], true⟩ := by kernel_rfl
@[go_sem] theorem td102 : td Try.prog 102 = some ⟨.st [(0, 3), (1, 24)], 5, 40, [.int .i64 0, .int .u64 0, .int .u64 0, .int .u64 0, .int .u64 0], true⟩ := by kernel_rfl
@[go_sem] theorem td104 : td Try.prog 104 = some ⟨.st [(0, 3), (1, 3), (2, 102)], 7, 56, [.int .i64 0, .int .i64 0, .int .i64 0, .int .u64 0, .int .u64 0, .int .u64 0, .int .u64 0], true⟩ := by kernel_rfl
@[go_sem] theorem td108 : td Try.prog 108 = some ⟨.st [(0, 52), (1, 3)], 2, 32, [.slice none 0 0, .int .i64 0], true⟩ := by kernel_rfl
@[go_sem] theorem td111 : td Try.prog 111 = some ⟨.arr 7 22, 7, 56, [.int .u64 0, .int .u64 0, .int .u64 0, .int .u64 0, .int .u64 0, .int .u64 0, .int .u64 0], true⟩ := by kernel_rfl
@[go_sem] theorem td116 : td Try.prog 116 = some ⟨.int .u64, 1, 8, [.int .u64 0], true⟩ := by kernel_rfl

theorem mix : Try.prog.follows .mixedOrders = true := by kernel_rfl

end Go.Proofs.YtgdbammhnjkbbaaW.V

