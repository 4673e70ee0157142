/- The law: RecordL. No condition but each theorem's own. -/
import Derived.Test.YtgdbammhnjkbbaaFSP
namespace Go.Proofs.YtgdbammhnjkbbaaW.V
open Go Go.Proofs
set_option linter.unusedSimpArgs false
set_option linter.unusedVariables false
set_option maxRecDepth 8000
set_option maxHeartbeats 4000000

def H_laws_FnRecordTop : Hint := { fs := [(11, ORaws), (21, MRead), (22, MRead), (23, MCut), (24, MWrite)], kp := [(0, [0]), (1, [0]), (2, []), (3, [0]), (4, [3, 4, 5]), (5, [3, 4, 5, 6]), (6, [3, 4, 5, 6, 7]), (7, [6]), (8, [3, 4, 5, 6, 7]), (9, []), (10, [3, 4, 5, 6, 7]), (11, [3, 4, 5, 6, 7, 9]), (13, [3, 4, 5, 6, 7, 9]), (14, [3, 4, 5, 6, 7, 9, 10]), (15, []), (12, [3, 4, 5, 6, 7, 9]), (16, [3, 4, 5, 6, 7]), (17, [3, 4, 5, 6, 7, 12, 13]), (18, [3, 4, 5, 6, 7, 12, 13, 15])], an := [(18, [0, 0, 2, 6, 0, 0, 62, 127, 255, 511, 511, 2047, 4095, 8191, 16383, 16383, 65535, 16383, 16383, 524287, 1048575, 2097151, 4194303])], rs := [(20, RDrawRecordRaws)] }
attribute [go_sem] H_laws_FnRecordTop
theorem ok_H_laws_FnRecordTop : H_laws_FnRecordTop.ok Try.prog := AllOk.okR (.cons ok_impl_RecordRaws (.cons ok_spec_RecordRead (.cons ok_impl_RecordRead (.cons ok_impl_RecordCut (.cons ok_impl_DiskWrite .nil))))) (.cons ok_spec_DrawRecordRaws .nil) mix
theorem f_FnRecordTop (b : List UInt8) (_ : b.length ≤ maxLen ∧ ∀ x ∈ b, True) : VFun Try.prog 5 [(eList cU8).enc b] [] (eBool.enc true) [] := by
  refine VFun_pure (n := 100) (rs := [.tmp 2]) Try.func5 rfl rfl rfl rfl H_laws_FnRecordTop ok_H_laws_FnRecordTop _ _ (Nat.le_of_ble_eq_true rfl) (by kernel_rfl) ?_
  simp only [go_sem, ↓reduceIte, reduceCtorEq, Nat.reduceAdd, Nat.reduceMul, Nat.reduceEqDiff, Nat.reduceSub, Nat.reduceLT, Nat.reduceLeDiff, Nat.reduceAnd, Nat.reduceShiftRight, Nat.reduceBEq, Nat.reduceBNe, Nat.reduceBneDiff, Nat.reduceBeqDiff, Int.reduceToNat, Int.reduceLE, Int.reduceLT, Int.reduceEq]
  refine ite_intro (fun _ => trivial) fun h => ⟨by omega, ?_⟩
  rintro ⟨d, n, root⟩
  dsimp only
  refine ite_intro (fun h1 => ?_) fun h1 => ?_
  · refine ite_intro (fun h2 => ?_) fun h2 => ?_
    · refine ite_intro (fun h3 => ?_) fun h3 => ?_
      · rw [rawsM_no fun hh => absurd hh.2 (by omega)]; rfl
      · have hin : (1 ≤ n ∧ n ≤ 256) ∧ (readM d).1.1 < 1000000000 := ⟨⟨by omega, by omega⟩, by omega⟩
        have hR := congrArg List.length (rawsM_at (root := root) hin.1 hin.2 rfl)
        have hl : (rawsM d n root).length = 8 := hR
        have hp : ∀ c : Int, c < 8 → readM (cutM d (rawsM d n root) c) = readM d := fun c hc => read_part hc
        have hw : ∀ c : Int, 8 ≤ c → readM (cutM d (rawsM d n root) c) = (((readM d).1.1 + 1, n, root), toM d) := fun c hc => read_whole hin hc
        have h9 : cutM d (rawsM d n root) 9 = writeM d (rawsM d n root) := by rw [cutM, List.take_of_length_le (by rw [hl]; decide)]
        have hn : ¬ toM d = (readM d).2 := by unfold toM; split <;> omega
        have hb := readM_bd d
        generalize rawsM d n root = R at hl hp hw h9 ⊢
        refine ite_intro (fun h4 => absurd (by omega) h4) fun _ => ?_
        refine LoopV.go (H := H_laws_FnRecordTop) ok_H_laws_FnRecordTop (by kernel_rfl) (fun i : Int => ⟨[(3, .x (.o (.p (1, 100) 0 0 1))), (4, sc (.int .i64 n)), (5, .x (.o (.p (1, 101) 0 0 1))), (6, .x (.o (.h (1, 102) 0 R.length R.length))), (7, .x (.o (.p (1, 103) 0 0 1))), (9, sc (.int .i64 i))], [((1, 100), bxDisk d), ((1, 101), bxDigest root), ((1, 102), .row 3 (R.map cRaw.enc)), ((1, 103), bxRecord (readM d).1)], 2⟩) (fun i => (8 - i).toNat) (fun i => -1 ≤ i ∧ i ≤ 8) ?_ (-1) (by decide)
        intro i hi
        have w1 : IntKind.i64.wrap (i + 1) = i + 1 := wrap64 (by omega) (by omega)
        by_cases hlt : i < 8
        · have hpi := hp i hlt
          simp only [go_sem, ↓reduceIte, reduceCtorEq, Nat.reduceAdd, Nat.reduceMul, Nat.reduceEqDiff, Nat.reduceSub, Nat.reduceLT, Nat.reduceLeDiff, Nat.reduceAnd, Nat.reduceShiftRight, Nat.reduceBEq, Nat.reduceBNe, Nat.reduceBneDiff, Nat.reduceBeqDiff, Int.reduceToNat, Int.reduceLE, Int.reduceLT, Int.reduceEq, hlt, hpi, w1]
          exact ⟨by omega, i + 1, by omega, by omega, rfl⟩
        · have hw8 := hw 8 (by omega)
          have w2 : IntKind.i64.wrap ((readM d).1.1 + 1) = (readM d).1.1 + 1 := wrap64 (by omega) (by omega)
          simp only [go_sem, ↓reduceIte, reduceCtorEq, Nat.reduceAdd, Nat.reduceMul, Nat.reduceEqDiff, Nat.reduceSub, Nat.reduceLT, Nat.reduceLeDiff, Nat.reduceAnd, Nat.reduceShiftRight, Nat.reduceBEq, Nat.reduceBNe, Nat.reduceBneDiff, Nat.reduceBeqDiff, Int.reduceToNat, Int.reduceLE, Int.reduceLT, Int.reduceEq, hlt, hw8, h9, w2, hn]
          exact ⟨by omega, by omega, by omega⟩
    · rw [rawsM_no fun hh => absurd hh.1 (by omega)]; rfl
  · rw [rawsM_no fun hh => absurd hh.1 (by omega)]; rfl

end Go.Proofs.YtgdbammhnjkbbaaW.V

