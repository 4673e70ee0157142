/- The readings of the program's types. No condition but each theorem's own. -/
import Derived.Test.YtcgkhljolflenaaGreatRows
import Derived.Test.YtcgkhljolflenaaGreatVCd
namespace Go.Proofs.YtcgkhljolflenaaGreatW.V
open Go Go.Proofs
set_option linter.unusedSimpArgs false
set_option linter.unusedVariables false
set_option maxRecDepth 8000
set_option maxHeartbeats 4000000

@[go_sem] theorem td3 : td Tryz.prog 3 = some ⟨.int .i64, 1, 8, [.int .i64 0], true⟩ := by kernel_rfl
@[go_sem] theorem td4 : td Tryz.prog 4 = some ⟨.bool, 1, 1, [.bool false], true⟩ := by kernel_rfl
@[go_sem] theorem td5 : td Tryz.prog 5 = some ⟨.int .u8, 1, 1, [.int .u8 0], true⟩ := by kernel_rfl
@[go_sem] theorem td9 : td Tryz.prog 9 = some ⟨.str, 1, 16, [.string ⟨#[]⟩], true⟩ := by kernel_rfl
@[go_sem] theorem td22 : td Tryz.prog 22 = some ⟨.slice 5, 1, 24, [.slice none 0 0], true⟩ := by kernel_rfl
@[go_sem] theorem td23 : td Tryz.prog 23 = some ⟨.int .u64, 1, 8, [.int .u64 0], true⟩ := by kernel_rfl
@[go_sem] theorem td25 : td Tryz.prog 25 = some ⟨.st [(0, 23), (1, 23), (2, 23), (3, 23)], 4, 32, [.int .u64 0, .int .u64 0, .int .u64 0, .int .u64 0], true⟩ := by kernel_rfl
@[go_sem] theorem td27 : td Tryz.prog 27 = some ⟨.st [(0, 3), (1, 25)], 5, 40, [.int .i64 0, .int .u64 0, .int .u64 0, .int .u64 0, .int .u64 0], true⟩ := by kernel_rfl
@[go_sem] theorem td28 : td Tryz.prog 28 = some ⟨.slice 65, 1, 24, [.slice none 0 0], true⟩ := by kernel_rfl
@[go_sem] theorem td29 : td Tryz.prog 29 = some ⟨.slice 25, 1, 24, [.slice none 0 0], true⟩ := by kernel_rfl
@[go_sem] theorem td33 : td Tryz.prog 33 = some ⟨.st [(0, 9), (1, 9)], 2, 32, [.string ⟨#[]⟩, .string ⟨#[]⟩], true⟩ := by kernel_rfl
@[go_sem] theorem td38 : td Tryz.prog 38 = some ⟨.slice 9, 1, 24, [.slice none 0 0], true⟩ := by kernel_rfl
@[go_sem] theorem td45 : td Tryz.prog 45 = some ⟨.ptr 50, 1, 8, [.pointer none], true⟩ := by kernel_rfl
@[go_sem] theorem td48 : td Tryz.prog 48 = some ⟨.ptr 57, 1, 8, [.pointer none], true⟩ := by kernel_rfl
@[go_sem] theorem td50 : td Tryz.prog 50 = some ⟨.st [(0, 48)], 1, 8, [.pointer none], true⟩ := by kernel_rfl
@[go_sem] theorem td52 : td Tryz.prog 52 = some ⟨.ptr 87, 1, 8, [.pointer none], true⟩ := by kernel_rfl
@[go_sem] theorem td54 : td Tryz.prog 54 = some ⟨.st [(0, 52)], 1, 8, [.pointer none], true⟩ := by kernel_rfl
@[go_sem] theorem td55 : td Tryz.prog 55 = some ⟨.ptr 54, 1, 8, [.pointer none], true⟩ := by kernel_rfl
@[go_sem] theorem td57 : td Tryz.prog 57 = some ⟨.st [(0, 55)], 1, 8, [.pointer none], true⟩ := by kernel_rfl
@[go_sem] theorem td65 : td Tryz.prog 65 = some ⟨.st [(0, 27), (5, 29)], 6, 64, [.int .i64 0, .int .u64 0, .int .u64 0, .int .u64 0, .int .u64 0, .slice none 0 0], true⟩ := by kernel_rfl
@[go_sem] theorem td74 : td Tryz.prog 74 = some ⟨.slice 77, 1, 24, [.slice none 0 0], true⟩ := by kernel_rfl
@[go_sem] theorem td77 : td Tryz.prog 77 = some ⟨.arr 2 25, 8, 64, [.int .u64 0, .int .u64 0, .int .u64 0, .int .u64 0, .int .u64 0, .int .u64 0, .int .u64 0, .int .u64 0], true⟩ := by kernel_rfl
@[go_sem] theorem td87 : td Tryz.prog 87 = some ⟨.st [(0, 22), (1, 3)], 2, 32, [.slice none 0 0, .int .i64 0], true⟩ := by kernel_rfl
@[go_sem] theorem td99 : td Tryz.prog 99 = some ⟨.map 104 25, 1, 8, [.map none], true⟩ := by kernel_rfl
@[go_sem] theorem td101 : td Tryz.prog 101 = some ⟨.slice 104, 1, 24, [.slice none 0 0], true⟩ := by kernel_rfl
@[go_sem] theorem td104 : td Tryz.prog 104 = some ⟨.st [(0, 3), (1, 3)], 2, 16, [.int .i64 0, .int .i64 0], true⟩ := by kernel_rfl
@[go_sem] theorem td116 : td Tryz.prog 116 = some ⟨.st [], 0, 0, [], true⟩ := by kernel_rfl
@[go_sem] theorem td131 : td Tryz.prog 131 = some ⟨.int .u64, 1, 8, [.int .u64 0], true⟩ := by kernel_rfl
@[go_sem] theorem td132 : td Tryz.prog 132 = some ⟨.slice 23, 1, 24, [.slice none 0 0], true⟩ := by kernel_rfl
@[go_sem] theorem td140 : td Tryz.prog 140 = some ⟨.int .u32, 1, 4, [.int .u32 0], true⟩ := by kernel_rfl

theorem mix : Tryz.prog.follows .mixedOrders = true := by kernel_rfl

end Go.Proofs.YtcgkhljolflenaaGreatW.V

