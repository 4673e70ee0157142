/- The law: the program's raw writes are the reference's, and its answer is its own. No condition but each theorem's own. -/
import Derived.Test.YtgdbammhnjkbbaaFSE
import Derived.Test.YtgdbammhnjkbbaaFSP
namespace Go.Proofs.YtgdbammhnjkbbaaW.V
open Go Go.Proofs
set_option linter.unusedSimpArgs false
set_option linter.unusedVariables false
set_option maxRecDepth 8000
set_option maxHeartbeats 4000000

def H_laws_FnExactRecordRaws : Hint := { fs := [(8, MRaws), (9, MToDisk), (10, MToDigest), (11, ORaws), (12, MEq_raw), (13, MMarkRaw), (14, MHeldRaw)], kp := [(0, [0, 1, 2]), (1, [1, 3, 5]), (2, [1, 3, 5, 7]), (3, [1, 3, 5, 7, 8]), (4, []), (5, [1, 3, 5, 7, 8]), (6, [1, 3, 5, 7, 8, 9]), (7, [1, 3, 5, 7, 8, 9]), (8, [1, 3, 5, 7, 8, 9, 10]), (9, [1, 3, 5, 7, 8, 9, 10]), (10, []), (11, [1, 3, 5, 7, 8, 9, 10]), (12, []), (13, [1, 3, 5, 7, 8, 9]), (14, [7, 8, 9, 11]), (15, []), (16, [8, 9]), (17, [8, 9, 10]), (18, [9, 10]), (19, []), (20, [9, 10]), (21, []), (22, [])], an := [(1, [0, 1, 0, 0, 11, 31, 63]), (2, [0, 1, 0, 0, 11, 31, 63]), (13, [0, 1, 0, 0, 11, 31, 63])] }
attribute [go_sem] H_laws_FnExactRecordRaws
theorem ok_H_laws_FnExactRecordRaws : H_laws_FnExactRecordRaws.ok Try.prog := AllOk.okR (.cons ok_spec_RecordRaws (.cons ok_laws_toDisk (.cons ok_laws_toDigest (.cons ok_impl_RecordRaws (.cons ok_laws_eqRawS (.cons ok_laws_markRawS (.cons ok_laws_heldRawS .nil))))))) .nil mix
theorem f_FnExactRecordRaws (d : Disk) (n : Int) (root : Digest) {h0 h1 h2 : Prop} (_ : h0) (_ : h1) (_ : h2) : VFun Try.prog 3 [(CE.st cDisk).enc d, (eInt .i64).enc n, (CE.st cDigest).enc root] [] (eBool.enc true) [] := by
  have hl := rawsM_len d n root
  have hm := markL_len (rawsM d n root).length
  refine VFun_pure (n := 57) (rs := [.tmp 6]) Try.func3 rfl rfl rfl rfl H_laws_FnExactRecordRaws ok_H_laws_FnExactRecordRaws _ _ (Nat.le_of_ble_eq_true rfl) (by kernel_rfl) ?_
  have h3 : (((1 + 3 * (rawsM d n root).length : Nat) : Int) < 0) = False := eq_false (by omega)
  simp only [go_sem, ↓reduceIte, reduceCtorEq, Nat.reduceAdd, Nat.reduceMul, Nat.reduceEqDiff, Nat.reduceSub, Nat.reduceLT, Nat.reduceLeDiff, Nat.reduceAnd, Nat.reduceShiftRight, Nat.reduceBEq, Nat.reduceBNe, Nat.reduceBneDiff, Nat.reduceBeqDiff, Int.reduceToNat, Int.reduceLE, Int.reduceLT, Int.reduceEq, hm, h3]
  (repeat' apply And.intro) <;> first | (unfold maxLen; omega) | rfl | omega

end Go.Proofs.YtgdbammhnjkbbaaW.V

