/- The readings of the program's types. No condition but each theorem's own. -/
import Derived.Test.YtpdcdajccfccbaaRows
import Derived.Test.YtpdcdajccfccbaaVCd
namespace Go.Proofs.YtpdcdajccfccbaaW.V
open Go Go.Proofs

@[go_sem] theorem td3 : td Try.prog 3 = some ⟨.int .i64, 1, 8, [.int .i64 0], true⟩ := by kernel_rfl
@[go_sem] theorem td4 : td Try.prog 4 = some ⟨.bool, 1, 1, [.bool false], true⟩ := by kernel_rfl
@[go_sem] theorem td9 : td Try.prog 9 = some ⟨.str, 1, 16, [.string ⟨#[]⟩], true⟩ := by kernel_rfl
@[go_sem] theorem td23 : td Try.prog 23 = some ⟨.st [(0, 3), (1, 3), (2, 3), (3, 3), (4, 3)], 5, 40, [.int .i64 0, .int .i64 0, .int .i64 0, .int .i64 0, .int .i64 0], true⟩ := by kernel_rfl
@[go_sem] theorem td25 : td Try.prog 25 = some ⟨.st [(0, 3), (1, 3), (2, 3), (3, 3), (4, 3)], 5, 40, [.int .i64 0, .int .i64 0, .int .i64 0, .int .i64 0, .int .i64 0], true⟩ := by kernel_rfl
@[go_sem] theorem td29 : td Try.prog 29 = some ⟨.st [(0, 3), (1, 3), (2, 9)], 3, 32, [.int .i64 0, .int .i64 0, .string ⟨#[]⟩], true⟩ := by kernel_rfl
@[go_sem] theorem td32 : td Try.prog 32 = some ⟨.st [(0, 3), (1, 3), (2, 9)], 3, 32, [.int .i64 0, .int .i64 0, .string ⟨#[]⟩], true⟩ := by kernel_rfl
@[go_sem] theorem td36 : td Try.prog 36 = some ⟨.st [(0, 3), (1, 3), (2, 3), (3, 9)], 4, 40, [.int .i64 0, .int .i64 0, .int .i64 0, .string ⟨#[]⟩], true⟩ := by kernel_rfl
@[go_sem] theorem td39 : td Try.prog 39 = some ⟨.st [(0, 3), (1, 3), (2, 3), (3, 9)], 4, 40, [.int .i64 0, .int .i64 0, .int .i64 0, .string ⟨#[]⟩], true⟩ := by kernel_rfl
@[go_sem] theorem td43 : td Try.prog 43 = some ⟨.slice 29, 1, 24, [.slice none 0 0], true⟩ := by kernel_rfl
@[go_sem] theorem td45 : td Try.prog 45 = some ⟨.st [(0, 3), (1, 43)], 2, 32, [.int .i64 0, .slice none 0 0], true⟩ := by kernel_rfl
@[go_sem] theorem td48 : td Try.prog 48 = some ⟨.slice 32, 1, 24, [.slice none 0 0], true⟩ := by kernel_rfl
@[go_sem] theorem td50 : td Try.prog 50 = some ⟨.st [(0, 3), (1, 48)], 2, 32, [.int .i64 0, .slice none 0 0], true⟩ := by kernel_rfl
@[go_sem] theorem td54 : td Try.prog 54 = some ⟨.int .u64, 1, 8, [.int .u64 0], true⟩ := by kernel_rfl
@[go_sem] theorem td56 : td Try.prog 56 = some ⟨.st [(0, 54), (1, 54), (2, 54), (3, 54)], 4, 32, [.int .u64 0, .int .u64 0, .int .u64 0, .int .u64 0], true⟩ := by kernel_rfl
@[go_sem] theorem td58 : td Try.prog 58 = some ⟨.st [(0, 3), (1, 56)], 5, 40, [.int .i64 0, .int .u64 0, .int .u64 0, .int .u64 0, .int .u64 0], true⟩ := by kernel_rfl
@[go_sem] theorem td59 : td Try.prog 59 = some ⟨.slice 3, 1, 24, [.slice none 0 0], true⟩ := by kernel_rfl
@[go_sem] theorem td61 : td Try.prog 61 = some ⟨.st [(0, 3), (1, 3), (2, 3), (3, 3), (4, 58), (9, 59), (10, 58)], 15, 136, [.int .i64 0, .int .i64 0, .int .i64 0, .int .i64 0, .int .i64 0, .int .u64 0, .int .u64 0, .int .u64 0, .int .u64 0, .slice none 0 0, .int .i64 0, .int .u64 0, .int .u64 0, .int .u64 0, .int .u64 0], true⟩ := by kernel_rfl
@[go_sem] theorem td67 : td Try.prog 67 = some ⟨.st [(0, 54), (1, 54), (2, 54), (3, 54)], 4, 32, [.int .u64 0, .int .u64 0, .int .u64 0, .int .u64 0], true⟩ := by kernel_rfl
@[go_sem] theorem td69 : td Try.prog 69 = some ⟨.st [(0, 3), (1, 67)], 5, 40, [.int .i64 0, .int .u64 0, .int .u64 0, .int .u64 0, .int .u64 0], true⟩ := by kernel_rfl
@[go_sem] theorem td71 : td Try.prog 71 = some ⟨.st [(0, 3), (1, 3), (2, 3), (3, 3), (4, 69), (9, 59), (10, 69)], 15, 136, [.int .i64 0, .int .i64 0, .int .i64 0, .int .i64 0, .int .i64 0, .int .u64 0, .int .u64 0, .int .u64 0, .int .u64 0, .slice none 0 0, .int .i64 0, .int .u64 0, .int .u64 0, .int .u64 0, .int .u64 0], true⟩ := by kernel_rfl

theorem mix : Try.prog.follows .mixedOrders = true := by kernel_rfl

end Go.Proofs.YtpdcdajccfccbaaW.V
