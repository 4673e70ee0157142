/- The readings of the program's types. No condition but each theorem's own. -/
import Derived.Test.YtlofjogebacndaaGreatRows
import Derived.Test.YtlofjogebacndaaGreatVCd
namespace Go.Proofs.YtlofjogebacndaaGreatW.V
open Go Go.Proofs
set_option linter.unusedSimpArgs false
set_option linter.unusedVariables false
set_option maxRecDepth 8000
set_option maxHeartbeats 4000000

@[go_sem] theorem td3 : td Tryz.prog 3 = some ⟨.int .i64, 1, 8, [.int .i64 0], true⟩ := by kernel_rfl
@[go_sem] theorem td4 : td Tryz.prog 4 = some ⟨.bool, 1, 1, [.bool false], true⟩ := by kernel_rfl
@[go_sem] theorem td5 : td Tryz.prog 5 = some ⟨.int .u8, 1, 1, [.int .u8 0], true⟩ := by kernel_rfl
@[go_sem] theorem td9 : td Tryz.prog 9 = some ⟨.str, 1, 16, [.string ⟨#[]⟩], true⟩ := by kernel_rfl
@[go_sem] theorem td21 : td Tryz.prog 21 = some ⟨.int .i32, 1, 4, [.int .i32 0], true⟩ := by kernel_rfl
@[go_sem] theorem td22 : td Tryz.prog 22 = some ⟨.int .u64, 1, 8, [.int .u64 0], true⟩ := by kernel_rfl
@[go_sem] theorem td24 : td Tryz.prog 24 = some ⟨.st [(0, 22), (1, 22), (2, 22), (3, 22)], 4, 32, [.int .u64 0, .int .u64 0, .int .u64 0, .int .u64 0], true⟩ := by kernel_rfl
@[go_sem] theorem td26 : td Tryz.prog 26 = some ⟨.st [(0, 3), (1, 24)], 5, 40, [.int .i64 0, .int .u64 0, .int .u64 0, .int .u64 0, .int .u64 0], true⟩ := by kernel_rfl
@[go_sem] theorem td27 : td Tryz.prog 27 = some ⟨.slice 3, 1, 24, [.slice none 0 0], true⟩ := by kernel_rfl
@[go_sem] theorem td29 : td Tryz.prog 29 = some ⟨.st [(0, 3), (1, 3), (2, 3), (3, 3), (4, 26), (9, 27), (10, 26)], 15, 136, [.int .i64 0, .int .i64 0, .int .i64 0, .int .i64 0, .int .i64 0, .int .u64 0, .int .u64 0, .int .u64 0, .int .u64 0, .slice none 0 0, .int .i64 0, .int .u64 0, .int .u64 0, .int .u64 0, .int .u64 0], true⟩ := by kernel_rfl
@[go_sem] theorem td30 : td Tryz.prog 30 = some ⟨.slice 9, 1, 24, [.slice none 0 0], true⟩ := by kernel_rfl
@[go_sem] theorem td32 : td Tryz.prog 32 = some ⟨.st [(0, 29), (15, 30), (16, 26)], 21, 200, [.int .i64 0, .int .i64 0, .int .i64 0, .int .i64 0, .int .i64 0, .int .u64 0, .int .u64 0, .int .u64 0, .int .u64 0, .slice none 0 0, .int .i64 0, .int .u64 0, .int .u64 0, .int .u64 0, .int .u64 0, .slice none 0 0, .int .i64 0, .int .u64 0, .int .u64 0, .int .u64 0, .int .u64 0], true⟩ := by kernel_rfl
@[go_sem] theorem td34 : td Tryz.prog 34 = some ⟨.st [(0, 22), (1, 22), (2, 22), (3, 22)], 4, 32, [.int .u64 0, .int .u64 0, .int .u64 0, .int .u64 0], true⟩ := by kernel_rfl
@[go_sem] theorem td36 : td Tryz.prog 36 = some ⟨.st [(0, 3), (1, 34)], 5, 40, [.int .i64 0, .int .u64 0, .int .u64 0, .int .u64 0, .int .u64 0], true⟩ := by kernel_rfl
@[go_sem] theorem td38 : td Tryz.prog 38 = some ⟨.st [(0, 3), (1, 3), (2, 3), (3, 3), (4, 36), (9, 27), (10, 36)], 15, 136, [.int .i64 0, .int .i64 0, .int .i64 0, .int .i64 0, .int .i64 0, .int .u64 0, .int .u64 0, .int .u64 0, .int .u64 0, .slice none 0 0, .int .i64 0, .int .u64 0, .int .u64 0, .int .u64 0, .int .u64 0], true⟩ := by kernel_rfl
@[go_sem] theorem td40 : td Tryz.prog 40 = some ⟨.st [(0, 38), (15, 30), (16, 36)], 21, 200, [.int .i64 0, .int .i64 0, .int .i64 0, .int .i64 0, .int .i64 0, .int .u64 0, .int .u64 0, .int .u64 0, .int .u64 0, .slice none 0 0, .int .i64 0, .int .u64 0, .int .u64 0, .int .u64 0, .int .u64 0, .slice none 0 0, .int .i64 0, .int .u64 0, .int .u64 0, .int .u64 0, .int .u64 0], true⟩ := by kernel_rfl
@[go_sem] theorem td41 : td Tryz.prog 41 = some ⟨.slice 67, 1, 24, [.slice none 0 0], true⟩ := by kernel_rfl
@[go_sem] theorem td42 : td Tryz.prog 42 = some ⟨.slice 98, 1, 24, [.slice none 0 0], true⟩ := by kernel_rfl
@[go_sem] theorem td43 : td Tryz.prog 43 = some ⟨.slice 36, 1, 24, [.slice none 0 0], true⟩ := by kernel_rfl
@[go_sem] theorem td45 : td Tryz.prog 45 = some ⟨.st [(0, 40), (21, 41), (22, 42), (23, 43), (24, 43)], 25, 296, [.int .i64 0, .int .i64 0, .int .i64 0, .int .i64 0, .int .i64 0, .int .u64 0, .int .u64 0, .int .u64 0, .int .u64 0, .slice none 0 0, .int .i64 0, .int .u64 0, .int .u64 0, .int .u64 0, .int .u64 0, .slice none 0 0, .int .i64 0, .int .u64 0, .int .u64 0, .int .u64 0, .int .u64 0, .slice none 0 0, .slice none 0 0, .slice none 0 0, .slice none 0 0], true⟩ := by kernel_rfl
@[go_sem] theorem td59 : td Tryz.prog 59 = some ⟨.st [(0, 38), (15, 41), (16, 42), (17, 43)], 18, 208, [.int .i64 0, .int .i64 0, .int .i64 0, .int .i64 0, .int .i64 0, .int .u64 0, .int .u64 0, .int .u64 0, .int .u64 0, .slice none 0 0, .int .i64 0, .int .u64 0, .int .u64 0, .int .u64 0, .int .u64 0, .slice none 0 0, .slice none 0 0, .slice none 0 0], true⟩ := by kernel_rfl
@[go_sem] theorem td61 : td Tryz.prog 61 = some ⟨.slice 34, 1, 24, [.slice none 0 0], true⟩ := by kernel_rfl
@[go_sem] theorem td63 : td Tryz.prog 63 = some ⟨.st [(0, 3), (1, 3), (2, 3), (3, 3), (4, 34), (8, 3), (9, 61), (10, 30)], 11, 120, [.int .i64 0, .int .i64 0, .int .i64 0, .int .i64 0, .int .u64 0, .int .u64 0, .int .u64 0, .int .u64 0, .int .i64 0, .slice none 0 0, .slice none 0 0], true⟩ := by kernel_rfl
@[go_sem] theorem td67 : td Tryz.prog 67 = some ⟨.st [(0, 3), (1, 3), (2, 9)], 3, 32, [.int .i64 0, .int .i64 0, .string ⟨#[]⟩], true⟩ := by kernel_rfl
@[go_sem] theorem td98 : td Tryz.prog 98 = some ⟨.st [(0, 3), (1, 3), (2, 36), (7, 36), (12, 3)], 13, 104, [.int .i64 0, .int .i64 0, .int .i64 0, .int .u64 0, .int .u64 0, .int .u64 0, .int .u64 0, .int .i64 0, .int .u64 0, .int .u64 0, .int .u64 0, .int .u64 0, .int .i64 0], true⟩ := by kernel_rfl
@[go_sem] theorem td105 : td Tryz.prog 105 = some ⟨.slice 5, 1, 24, [.slice none 0 0], true⟩ := by kernel_rfl
@[go_sem] theorem td110 : td Tryz.prog 110 = some ⟨.int .u64, 1, 8, [.int .u64 0], true⟩ := by kernel_rfl
@[go_sem] theorem td112 : td Tryz.prog 112 = some ⟨.st [], 0, 0, [], true⟩ := by kernel_rfl
@[go_sem] theorem td120 : td Tryz.prog 120 = some ⟨.slice 22, 1, 24, [.slice none 0 0], true⟩ := by kernel_rfl

theorem mix : Tryz.prog.follows .mixedOrders = true := by kernel_rfl

end Go.Proofs.YtlofjogebacndaaGreatW.V

