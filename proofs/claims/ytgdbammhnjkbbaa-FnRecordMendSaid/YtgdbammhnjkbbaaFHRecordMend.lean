/- The law: RecordL. No condition but each theorem's own. -/
import Derived.Test.YtgdbammhnjkbbaaFSP
namespace Go.Proofs.YtgdbammhnjkbbaaW.V
open Go Go.Proofs
set_option linter.unusedSimpArgs false
set_option linter.unusedVariables false
set_option maxRecDepth 8000
set_option maxHeartbeats 4000000

def H_laws_FnRecordMend : Hint := { fs := [(21, MRead), (22, MRead), (23, MCut), (24, MWrite), (26, OMend), (27, MMend), (28, MSlotOk)], kp := [(0, [0]), (1, [0]), (2, []), (3, [0]), (4, [3]), (5, [3, 4]), (6, []), (7, [3, 4]), (8, [3, 4, 5, 6]), (9, [3, 4, 5, 6, 7]), (11, [3, 4, 5, 6, 7]), (12, [3, 4, 5, 6, 7, 8]), (13, [3, 4, 5, 6, 7, 9, 10]), (14, []), (10, [3, 4, 5, 6, 7]), (15, [3, 4]), (16, [11])], an := [], rs := [(25, RDrawRecordMend)] }
attribute [go_sem] H_laws_FnRecordMend
theorem ok_H_laws_FnRecordMend : H_laws_FnRecordMend.ok Try.prog := AllOk.okR (.cons ok_spec_RecordRead (.cons ok_impl_RecordRead (.cons ok_impl_RecordCut (.cons ok_impl_DiskWrite (.cons ok_impl_RecordMend (.cons ok_spec_RecordMend (.cons ok_impl_SlotOk .nil))))))) (.cons ok_spec_DrawRecordMend .nil) mix
theorem f_FnRecordMend (b : List UInt8) (_ : b.length ≤ maxLen ∧ ∀ x ∈ b, True) : VFun Try.prog 6 [(eList cU8).enc b] [] (eBool.enc true) [] := by
  refine VFun_pure (n := 87) (rs := [.tmp 2]) Try.func6 rfl rfl rfl rfl H_laws_FnRecordMend ok_H_laws_FnRecordMend _ _ (Nat.le_of_ble_eq_true rfl) (by kernel_rfl) ?_
  simp only [go_sem, ↓reduceIte, reduceCtorEq, Nat.reduceAdd, Nat.reduceMul, Nat.reduceEqDiff, Nat.reduceSub, Nat.reduceLT, Nat.reduceLeDiff, Nat.reduceAnd, Nat.reduceShiftRight, Nat.reduceBEq, Nat.reduceBNe, Nat.reduceBneDiff, Nat.reduceBeqDiff, Int.reduceToNat, Int.reduceLE, Int.reduceLT, Int.reduceEq]
  refine ite_intro (fun _ => trivial) fun h => ⟨by omega, ?_⟩
  intro d
  have hl := mendM_len d
  have hp : ∀ c : Int, readM (cutM d (mendM d) c) = readM d := read_mend d
  obtain ⟨m1, m2, m3⟩ := mend_once d
  refine ite_intro (fun h1 => absurd h1 (by omega)) fun _ => ?_
  generalize mendM d = R at hl hp m1 m2 m3 ⊢
  refine LoopV.go (H := H_laws_FnRecordMend) ok_H_laws_FnRecordMend (by kernel_rfl) (fun i : Nat => ⟨[(3, .x (.o (.p (1, 100) 0 0 1))), (4, .x (.o (.h (1, 101) 0 R.length R.length))), (5, .x (.o (.p (1, 102) 0 0 1))), (6, sc (.int .i64 (readM d).2)), (7, sc (.int .i64 i))], [((1, 100), bxDisk d), ((1, 101), .row 3 (R.map cRaw.enc)), ((1, 102), bxRecord (readM d).1)], 2⟩) (fun i => R.length + 1 - i) (fun i => i ≤ R.length + 1) ?_ 0 (Nat.zero_le _)
  intro i hi
  have w1 : IntKind.i64.wrap ((i : Int) + 1) = ((i + 1 : Nat) : Int) := by rw [wrap64] <;> omega
  by_cases hlt : (i : Int) ≤ (R.length : Int)
  · have hpi := hp i
    simp only [go_sem, ↓reduceIte, reduceCtorEq, Nat.reduceAdd, Nat.reduceMul, Nat.reduceEqDiff, Nat.reduceSub, Nat.reduceLT, Nat.reduceLeDiff, Nat.reduceAnd, Nat.reduceShiftRight, Nat.reduceBEq, Nat.reduceBNe, Nat.reduceBneDiff, Nat.reduceBeqDiff, Int.reduceToNat, Int.reduceLE, Int.reduceLT, Int.reduceEq, hlt, hpi, w1]
    exact ⟨by omega, i + 1, by omega, by omega, rfl⟩
  · simp only [go_sem, ↓reduceIte, reduceCtorEq, Nat.reduceAdd, Nat.reduceMul, Nat.reduceEqDiff, Nat.reduceSub, Nat.reduceLT, Nat.reduceLeDiff, Nat.reduceAnd, Nat.reduceShiftRight, Nat.reduceBEq, Nat.reduceBNe, Nat.reduceBneDiff, Nat.reduceBeqDiff, Int.reduceToNat, Int.reduceLE, Int.reduceLT, Int.reduceEq, hlt, m1]
    refine ⟨by omega, ?_⟩
    rcases m2 with m2 | m2 <;> rcases m3 with m3 | m3 <;> simp [m2, m3, ok_nought]

end Go.Proofs.YtgdbammhnjkbbaaW.V

