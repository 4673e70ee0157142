/- The readings of the program's types. No condition but each theorem's own. -/
import Derived.Test.YtcgkhljolflenaaRows
import Derived.Test.YtcgkhljolflenaaVCd
namespace Go.Proofs.YtcgkhljolflenaaW.V
open Go Go.Proofs
set_option linter.unusedSimpArgs false
set_option linter.unusedVariables false
set_option maxRecDepth 8000
set_option maxHeartbeats 4000000

@[go_sem] theorem td3 : td Try.prog 3 = some ⟨.int .i64, 1, 8, [.int .i64 0], true⟩ := by kernel_rfl
@[go_sem] theorem td4 : td Try.prog 4 = some ⟨.bool, 1, 1, [.bool false], true⟩ := by kernel_rfl
@[go_sem] theorem td5 : td Try.prog 5 = some ⟨.int .u8, 1, 1, [.int .u8 0], true⟩ := by kernel_rfl
@[go_sem] theorem td9 : td Try.prog 9 = some ⟨.str, 1, 16, [.string ⟨#[]⟩], true⟩ := by kernel_rfl
@[go_sem] theorem td22 : td Try.prog 22 = some ⟨.slice 5, 1, 24, [.slice none 0 0], true⟩ := by kernel_rfl
@[go_sem] theorem td23 : td Try.prog 23 = some ⟨.slice 31, 1, 24, [.slice none 0 0], true⟩ := by kernel_rfl
@[go_sem] theorem td26 : td Try.prog 26 = some ⟨.slice 9, 1, 24, [.slice none 0 0], true⟩ := by kernel_rfl
@[go_sem] theorem td29 : td Try.prog 29 = some ⟨.int .u64, 1, 8, [.int .u64 0], true⟩ := by kernel_rfl
@[go_sem] theorem td31 : td Try.prog 31 = some ⟨.st [(0, 29), (1, 29), (2, 29), (3, 29)], 4, 32, [.int .u64 0, .int .u64 0, .int .u64 0, .int .u64 0], true⟩ := by kernel_rfl
@[go_sem] theorem td41 : td Try.prog 41 = some ⟨.st [(0, 9), (1, 9)], 2, 32, [.string ⟨#[]⟩, .string ⟨#[]⟩], true⟩ := by kernel_rfl
@[go_sem] theorem td48 : td Try.prog 48 = some ⟨.st [(0, 3), (1, 31)], 5, 40, [.int .i64 0, .int .u64 0, .int .u64 0, .int .u64 0, .int .u64 0], true⟩ := by kernel_rfl
@[go_sem] theorem td49 : td Try.prog 49 = some ⟨.slice 56, 1, 24, [.slice none 0 0], true⟩ := by kernel_rfl
@[go_sem] theorem td56 : td Try.prog 56 = some ⟨.st [(0, 48), (5, 23)], 6, 64, [.int .i64 0, .int .u64 0, .int .u64 0, .int .u64 0, .int .u64 0, .slice none 0 0], true⟩ := by kernel_rfl
@[go_sem] theorem td64 : td Try.prog 64 = some ⟨.ptr 69, 1, 8, [.pointer none], true⟩ := by kernel_rfl
@[go_sem] theorem td67 : td Try.prog 67 = some ⟨.ptr 76, 1, 8, [.pointer none], true⟩ := by kernel_rfl
@[go_sem] theorem td69 : td Try.prog 69 = some ⟨.st [(0, 67)], 1, 8, [.pointer none], true⟩ := by kernel_rfl
@[go_sem] theorem td71 : td Try.prog 71 = some ⟨.ptr 116, 1, 8, [.pointer none], true⟩ := by kernel_rfl
@[go_sem] theorem td73 : td Try.prog 73 = some ⟨.st [(0, 71)], 1, 8, [.pointer none], true⟩ := by kernel_rfl
@[go_sem] theorem td74 : td Try.prog 74 = some ⟨.ptr 73, 1, 8, [.pointer none], true⟩ := by kernel_rfl
@[go_sem] theorem td76 : td Try.prog 76 = some ⟨.st [(0, 74)], 1, 8, [.pointer none], true⟩ := by kernel_rfl
@[go_sem] theorem td81 : td Try.prog 81 = some ⟨.slice 84, 1, 24, [.slice none 0 0], true⟩ := by kernel_rfl
@[go_sem] theorem td84 : td Try.prog 84 = some ⟨.arr 2 31, 8, 64, [.int .u64 0, .int .u64 0, .int .u64 0, .int .u64 0, .int .u64 0, .int .u64 0, .int .u64 0, .int .u64 0], true⟩ := by kernel_rfl
@[go_sem] theorem td103 : td Try.prog 103 = some ⟨.map 108 31, 1, 8, [.map none], true⟩ := by kernel_rfl
@[go_sem] theorem td105 : td Try.prog 105 = some ⟨.slice 108, 1, 24, [.slice none 0 0], true⟩ := by kernel_rfl
@[go_sem] theorem td108 : td Try.prog 108 = some ⟨.st [(0, 3), (1, 3)], 2, 16, [.int .i64 0, .int .i64 0], true⟩ := by kernel_rfl
@[go_sem] theorem td116 : td Try.prog 116 = some ⟨.st [(0, 22), (1, 3)], 2, 32, [.slice none 0 0, .int .i64 0], true⟩ := by kernel_rfl
@[go_sem] theorem td120 : td Try.prog 120 = some ⟨.int .u64, 1, 8, [.int .u64 0], true⟩ := by kernel_rfl
@[go_sem] theorem td126 : td Try.prog 126 = some ⟨.st [], 0, 0, [], true⟩ := by kernel_rfl
@[go_sem] theorem td139 : td Try.prog 139 = some ⟨.slice 29, 1, 24, [.slice none 0 0], true⟩ := by kernel_rfl
@[go_sem] theorem td144 : td Try.prog 144 = some ⟨.int .u32, 1, 4, [.int .u32 0], true⟩ := by kernel_rfl

theorem mix : Try.prog.follows .mixedOrders = true := by kernel_rfl

end Go.Proofs.YtcgkhljolflenaaW.V

