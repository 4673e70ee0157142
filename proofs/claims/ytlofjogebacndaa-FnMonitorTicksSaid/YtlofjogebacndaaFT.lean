/- The readings of the program's types. No condition but each theorem's own. -/
import Derived.Test.YtlofjogebacndaaRows
import Derived.Test.YtlofjogebacndaaVCd
namespace Go.Proofs.YtlofjogebacndaaW.V
open Go Go.Proofs
set_option linter.unusedSimpArgs false
set_option linter.unusedVariables false
set_option maxRecDepth 8000
set_option maxHeartbeats 4000000

@[go_sem] theorem td3 : td Try.prog 3 = some ⟨.int .i64, 1, 8, [.int .i64 0], true⟩ := by kernel_rfl
@[go_sem] theorem td4 : td Try.prog 4 = some ⟨.bool, 1, 1, [.bool false], true⟩ := by kernel_rfl
@[go_sem] theorem td5 : td Try.prog 5 = some ⟨.int .u8, 1, 1, [.int .u8 0], true⟩ := by kernel_rfl
@[go_sem] theorem td9 : td Try.prog 9 = some ⟨.str, 1, 16, [.string ⟨#[]⟩], true⟩ := by kernel_rfl
@[go_sem] theorem td21 : td Try.prog 21 = some ⟨.int .i32, 1, 4, [.int .i32 0], true⟩ := by kernel_rfl
@[go_sem] theorem td22 : td Try.prog 22 = some ⟨.int .u64, 1, 8, [.int .u64 0], true⟩ := by kernel_rfl
@[go_sem] theorem td24 : td Try.prog 24 = some ⟨.st [(0, 22), (1, 22), (2, 22), (3, 22)], 4, 32, [.int .u64 0, .int .u64 0, .int .u64 0, .int .u64 0], true⟩ := by kernel_rfl
@[go_sem] theorem td26 : td Try.prog 26 = some ⟨.st [(0, 3), (1, 24)], 5, 40, [.int .i64 0, .int .u64 0, .int .u64 0, .int .u64 0, .int .u64 0], true⟩ := by kernel_rfl
@[go_sem] theorem td27 : td Try.prog 27 = some ⟨.slice 3, 1, 24, [.slice none 0 0], true⟩ := by kernel_rfl
@[go_sem] theorem td29 : td Try.prog 29 = some ⟨.st [(0, 3), (1, 3), (2, 3), (3, 3), (4, 26), (9, 27), (10, 26)], 15, 136, [.int .i64 0, .int .i64 0, .int .i64 0, .int .i64 0, .int .i64 0, .int .u64 0, .int .u64 0, .int .u64 0, .int .u64 0, .slice none 0 0, .int .i64 0, .int .u64 0, .int .u64 0, .int .u64 0, .int .u64 0], true⟩ := by kernel_rfl
@[go_sem] theorem td30 : td Try.prog 30 = some ⟨.slice 9, 1, 24, [.slice none 0 0], true⟩ := by kernel_rfl
@[go_sem] theorem td32 : td Try.prog 32 = some ⟨.st [(0, 29), (15, 30), (16, 26)], 21, 200, [.int .i64 0, .int .i64 0, .int .i64 0, .int .i64 0, .int .i64 0, .int .u64 0, .int .u64 0, .int .u64 0, .int .u64 0, .slice none 0 0, .int .i64 0, .int .u64 0, .int .u64 0, .int .u64 0, .int .u64 0, .slice none 0 0, .int .i64 0, .int .u64 0, .int .u64 0, .int .u64 0, .int .u64 0], true⟩ := by kernel_rfl
@[go_sem] theorem td35 : td Try.prog 35 = some ⟨.st [(0, 22), (1, 22), (2, 22), (3, 22)], 4, 32, [.int .u64 0, .int .u64 0, .int .u64 0, .int .u64 0], true⟩ := by kernel_rfl
@[go_sem] theorem td37 : td Try.prog 37 = some ⟨.st [(0, 3), (1, 35)], 5, 40, [.int .i64 0, .int .u64 0, .int .u64 0, .int .u64 0, .int .u64 0], true⟩ := by kernel_rfl
@[go_sem] theorem td39 : td Try.prog 39 = some ⟨.st [(0, 3), (1, 3), (2, 3), (3, 3), (4, 37), (9, 27), (10, 37)], 15, 136, [.int .i64 0, .int .i64 0, .int .i64 0, .int .i64 0, .int .i64 0, .int .u64 0, .int .u64 0, .int .u64 0, .int .u64 0, .slice none 0 0, .int .i64 0, .int .u64 0, .int .u64 0, .int .u64 0, .int .u64 0], true⟩ := by kernel_rfl
@[go_sem] theorem td41 : td Try.prog 41 = some ⟨.st [(0, 39), (15, 30), (16, 37)], 21, 200, [.int .i64 0, .int .i64 0, .int .i64 0, .int .i64 0, .int .i64 0, .int .u64 0, .int .u64 0, .int .u64 0, .int .u64 0, .slice none 0 0, .int .i64 0, .int .u64 0, .int .u64 0, .int .u64 0, .int .u64 0, .slice none 0 0, .int .i64 0, .int .u64 0, .int .u64 0, .int .u64 0, .int .u64 0], true⟩ := by kernel_rfl
@[go_sem] theorem td46 : td Try.prog 46 = some ⟨.slice 65, 1, 24, [.slice none 0 0], true⟩ := by kernel_rfl
@[go_sem] theorem td47 : td Try.prog 47 = some ⟨.slice 129, 1, 24, [.slice none 0 0], true⟩ := by kernel_rfl
@[go_sem] theorem td48 : td Try.prog 48 = some ⟨.slice 37, 1, 24, [.slice none 0 0], true⟩ := by kernel_rfl
@[go_sem] theorem td50 : td Try.prog 50 = some ⟨.st [(0, 39), (15, 46), (16, 47), (17, 48)], 18, 208, [.int .i64 0, .int .i64 0, .int .i64 0, .int .i64 0, .int .i64 0, .int .u64 0, .int .u64 0, .int .u64 0, .int .u64 0, .slice none 0 0, .int .i64 0, .int .u64 0, .int .u64 0, .int .u64 0, .int .u64 0, .slice none 0 0, .slice none 0 0, .slice none 0 0], true⟩ := by kernel_rfl
@[go_sem] theorem td58 : td Try.prog 58 = some ⟨.slice 5, 1, 24, [.slice none 0 0], true⟩ := by kernel_rfl
@[go_sem] theorem td62 : td Try.prog 62 = some ⟨.st [(0, 41), (21, 46), (22, 47), (23, 48), (24, 48)], 25, 296, [.int .i64 0, .int .i64 0, .int .i64 0, .int .i64 0, .int .i64 0, .int .u64 0, .int .u64 0, .int .u64 0, .int .u64 0, .slice none 0 0, .int .i64 0, .int .u64 0, .int .u64 0, .int .u64 0, .int .u64 0, .slice none 0 0, .int .i64 0, .int .u64 0, .int .u64 0, .int .u64 0, .int .u64 0, .slice none 0 0, .slice none 0 0, .slice none 0 0, .slice none 0 0], true⟩ := by kernel_rfl
@[go_sem] theorem td65 : td Try.prog 65 = some ⟨.st [(0, 3), (1, 3), (2, 9)], 3, 32, [.int .i64 0, .int .i64 0, .string ⟨#[]⟩], true⟩ := by kernel_rfl
@[go_sem] theorem td66 : td Try.prog 66 = some ⟨.slice 35, 1, 24, [.slice none 0 0], true⟩ := by kernel_rfl
@[go_sem] theorem td68 : td Try.prog 68 = some ⟨.st [(0, 3), (1, 3), (2, 3), (3, 3), (4, 35), (8, 3), (9, 66), (10, 30)], 11, 120, [.int .i64 0, .int .i64 0, .int .i64 0, .int .i64 0, .int .u64 0, .int .u64 0, .int .u64 0, .int .u64 0, .int .i64 0, .slice none 0 0, .slice none 0 0], true⟩ := by kernel_rfl
@[go_sem] theorem td70 : td Try.prog 70 = some ⟨.st [(0, 3), (1, 3)], 2, 16, [.int .i64 0, .int .i64 0], true⟩ := by kernel_rfl
@[go_sem] theorem td96 : td Try.prog 96 = some ⟨.ptr 101, 1, 8, [.pointer none], true⟩ := by kernel_rfl
@[go_sem] theorem td99 : td Try.prog 99 = some ⟨.ptr 106, 1, 8, [.pointer none], true⟩ := by kernel_rfl
@[go_sem] theorem td101 : td Try.prog 101 = some ⟨.st [(0, 99)], 1, 8, [.pointer none], true⟩ := by kernel_rfl
@[go_sem] theorem td104 : td Try.prog 104 = some ⟨.ptr 135, 1, 8, [.pointer none], true⟩ := by kernel_rfl
@[go_sem] theorem td106 : td Try.prog 106 = some ⟨.st [(0, 104)], 1, 8, [.pointer none], true⟩ := by kernel_rfl
@[go_sem] theorem td110 : td Try.prog 110 = some ⟨.ptr 112, 1, 8, [.pointer none], true⟩ := by kernel_rfl
@[go_sem] theorem td112 : td Try.prog 112 = some ⟨.st [(0, 9), (1, 3), (2, 70)], 4, 40, [.string ⟨#[]⟩, .int .i64 0, .int .i64 0, .int .i64 0], true⟩ := by kernel_rfl
@[go_sem] theorem td129 : td Try.prog 129 = some ⟨.st [(0, 3), (1, 3), (2, 37), (7, 37), (12, 3)], 13, 104, [.int .i64 0, .int .i64 0, .int .i64 0, .int .u64 0, .int .u64 0, .int .u64 0, .int .u64 0, .int .i64 0, .int .u64 0, .int .u64 0, .int .u64 0, .int .u64 0, .int .i64 0], true⟩ := by kernel_rfl
@[go_sem] theorem td135 : td Try.prog 135 = some ⟨.st [(0, 58), (1, 3)], 2, 32, [.slice none 0 0, .int .i64 0], true⟩ := by kernel_rfl
@[go_sem] theorem td144 : td Try.prog 144 = some ⟨.st [], 0, 0, [], true⟩ := by kernel_rfl
@[go_sem] theorem td151 : td Try.prog 151 = some ⟨.int .u64, 1, 8, [.int .u64 0], true⟩ := by kernel_rfl
@[go_sem] theorem td157 : td Try.prog 157 = some ⟨.slice 22, 1, 24, [.slice none 0 0], true⟩ := by kernel_rfl

theorem mix : Try.prog.follows .mixedOrders = true := by kernel_rfl

end Go.Proofs.YtlofjogebacndaaW.V

