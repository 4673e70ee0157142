/- The law: RecordL. No condition but each theorem's own. -/
import Derived.Test.YtgdbammhnjkbbaaFSP
namespace Go.Proofs.YtgdbammhnjkbbaaW.V
open Go Go.Proofs
set_option linter.unusedSimpArgs false
set_option linter.unusedVariables false
set_option maxRecDepth 8000
set_option maxHeartbeats 4000000

def H_laws_FnRecordTorn : Hint := { fs := [(8, MRaws), (11, ORaws), (21, MRead), (22, MRead), (23, MCut), (26, OMend)], kp := [(0, [0]), (1, [0]), (2, []), (3, [0]), (4, [0, 3, 4, 5]), (5, [0, 3, 4, 5, 6]), (6, [0, 3, 4, 5, 6, 8]), (8, [0, 3, 4, 5, 6, 8]), (9, [0, 3, 4, 5, 6, 8, 9]), (10, [0, 3, 4, 5, 6, 8, 9, 10]), (11, [0, 3, 4, 5, 6, 8, 9, 10, 11]), (12, [0, 3, 4, 5, 6, 8, 11]), (13, [0, 3, 4, 5, 6, 8]), (14, [0, 3, 4, 5, 6, 8]), (15, [0, 3, 4, 5, 6, 8]), (16, [0, 3, 4, 5, 6, 8, 12]), (17, []), (18, [0, 3, 4, 5, 6, 8]), (7, [0, 3, 4, 5, 6, 8]), (19, [3, 4, 5])], an := [(14, [0, 0, 2, 0, 0, 16, 62, 126, 254, 511, 1023]), (19, [0, 0, 0, 7, 15, 0, 0, 0, 239, 495, 1023, 2047])], rs := [(20, RDrawRecordRaws), (29, RAt)] }
attribute [go_sem] H_laws_FnRecordTorn
theorem ok_H_laws_FnRecordTorn : H_laws_FnRecordTorn.ok Try.prog := AllOk.okR (.cons ok_spec_RecordRaws (.cons ok_impl_RecordRaws (.cons ok_spec_RecordRead (.cons ok_impl_RecordRead (.cons ok_impl_RecordCut (.cons ok_impl_RecordMend .nil)))))) (.cons ok_spec_DrawRecordRaws (.cons ok_laws_at .nil)) mix
theorem f_FnRecordTorn (b : List UInt8) (_ : b.length ≤ maxLen ∧ ∀ x ∈ b, True) : VFun Try.prog 7 [(eList cU8).enc b] [] (eBool.enc true) [] := by
  refine VFun_pure (n := 92) (rs := [.tmp 2]) Try.func7 rfl rfl rfl rfl H_laws_FnRecordTorn ok_H_laws_FnRecordTorn _ _ (Nat.le_of_ble_eq_true rfl) (by kernel_rfl) ?_
  simp only [go_sem, ↓reduceIte, reduceCtorEq, Nat.reduceAdd, Nat.reduceMul, Nat.reduceEqDiff, Nat.reduceSub, Nat.reduceLT, Nat.reduceLeDiff, Nat.reduceAnd, Nat.reduceShiftRight, Nat.reduceBEq, Nat.reduceBNe, Nat.reduceBneDiff, Nat.reduceBeqDiff, Int.reduceToNat, Int.reduceLE, Int.reduceLT, Int.reduceEq]
  refine ite_intro (fun _ => trivial) fun h => ⟨by omega, ?_⟩
  rintro ⟨d0, n, root0⟩
  dsimp only
  refine LoopV.go (H := H_laws_FnRecordTorn) ok_H_laws_FnRecordTorn (by kernel_rfl) (fun y : Disk × Digest × Nat => ⟨[(0, .x (.o (.c (.s (b.map cU8.enc))))), (3, .x (.o (.p (1, 100) 0 0 1))), (4, sc (.int .i64 n)), (5, .x (.o (.p (1, 101) 0 0 1))), (6, .x (.o (.p (1, 102) 0 0 1))), (8, sc (.int .i64 y.2.2))], [((1, 100), bxDisk y.1), ((1, 101), bxDigest y.2.1), ((1, 102), bxRecord (readM y.1).1)], 2⟩) (fun y => 6 - y.2.2) (fun y => y.2.2 ≤ 6) ?_ (d0, root0, 0) (Nat.zero_le _)
  rintro ⟨d, root, i⟩ hi
  dsimp only at hi
  have w1 : IntKind.i64.wrap ((i : Int) + 1) = ((i + 1 : Nat) : Int) := by rw [wrap64] <;> omega
  have w2 : IntKind.i64.wrap ((i : Int) + 7) = ((i + 7 : Nat) : Int) := by rw [wrap64] <;> omega
  have hrl := rawsM_len d n root
  have hml := mendM_len
  by_cases hlt : (i : Int) < 6
  · have hp : ∀ (e : Disk) (c : Int), readM (cutM e (mendM e) c) = readM e := read_mend
    have hb := readM_bd d
    have hno : ¬ ((rawsM d n root).length : Int) = 8 → ∀ c, readM (cutM d (rawsM d n root) c) = readM d := fun h8 c => by
      have : rawsM d n root = [] := rawsM_no fun hin => h8 (congrArg (fun l : List Raw => (l.length : Int)) (rawsM_at (root := root) hin.1 hin.2 rfl))
      rw [this, cutM, List.take_nil]; rfl
    have hpart : ∀ c, ¬ 8 ≤ c → readM (cutM d (rawsM d n root) c) = readM d := fun c hc => read_part (by omega)
    have hwhole : ((rawsM d n root).length : Int) = 8 → ∀ c, 8 ≤ c → readM (cutM d (rawsM d n root) c) = (((readM d).1.1 + 1, n, root), toM d) := fun h8 c hc => read_whole (by
      by_cases hin : (1 ≤ n ∧ n ≤ 256) ∧ (readM d).1.1 < 1000000000
      · exact hin
      · rw [rawsM_no hin] at h8; cases h8) hc
    have w3 : IntKind.i64.wrap ((readM d).1.1 + 1) = (readM d).1.1 + 1 := wrap64 (by omega) (by omega)
    simp only [go_sem, ↓reduceIte, reduceCtorEq, Nat.reduceAdd, Nat.reduceMul, Nat.reduceEqDiff, Nat.reduceSub, Nat.reduceLT, Nat.reduceLeDiff, Nat.reduceAnd, Nat.reduceShiftRight, Nat.reduceBEq, Nat.reduceBNe, Nat.reduceBneDiff, Nat.reduceBeqDiff, Int.reduceToNat, Int.reduceLE, Int.reduceLT, Int.reduceEq, hlt, w1, w2, hp, w3, wrapU]
    refine ⟨⟨by omega, by omega⟩, fun y => ?_⟩
    generalize (IntKind.i64.wrap ↑y.toNat).tmod 10 = c
    refine ite_intro (fun h8 => ⟨by omega, ite_intro (fun hc => ?_) fun hc => ?_⟩) fun h8 => ?_
    · rw [hwhole h8 c hc]
      refine ⟨⟨by omega, by omega⟩, fun y2 => ⟨Nat.le_trans (hml _) (by omega), ?_⟩⟩
      refine ite_intro (fun hf => ?_) fun _ => ?_
      · simp at hf
      · exact ⟨(cutM (cutM d (rawsM d n root) c) (mendM (cutM d (rawsM d n root) c)) _, (_, root.2), i + 1), by dsimp only; omega, by dsimp only; omega, by dsimp only; rw [hp, hwhole h8 c hc]⟩
    · rw [hpart c hc]
      refine ⟨⟨by omega, by omega⟩, fun y2 => ⟨Nat.le_trans (hml _) (by omega), ?_⟩⟩
      refine ite_intro (fun hf => ?_) fun _ => ?_
      · simp at hf
      · exact ⟨(cutM (cutM d (rawsM d n root) c) (mendM (cutM d (rawsM d n root) c)) _, (_, root.2), i + 1), by dsimp only; omega, by dsimp only; omega, by dsimp only; rw [hp, hpart c hc]⟩
    · rw [hno h8 c]
      refine ⟨by omega, ⟨by omega, by omega⟩, fun y2 => ⟨Nat.le_trans (hml _) (by omega), ?_⟩⟩
      refine ite_intro (fun hf => ?_) fun _ => ?_
      · simp at hf
      · exact ⟨(cutM (cutM d (rawsM d n root) c) (mendM (cutM d (rawsM d n root) c)) _, (_, root.2), i + 1), by dsimp only; omega, by dsimp only; omega, by dsimp only; rw [hp, hno h8 c]⟩
  · simp only [go_sem, ↓reduceIte, reduceCtorEq, Nat.reduceAdd, Nat.reduceMul, Nat.reduceEqDiff, Nat.reduceSub, Nat.reduceLT, Nat.reduceLeDiff, Nat.reduceAnd, Nat.reduceShiftRight, Nat.reduceBEq, Nat.reduceBNe, Nat.reduceBneDiff, Nat.reduceBeqDiff, Int.reduceToNat, Int.reduceLE, Int.reduceLT, Int.reduceEq, hlt]

end Go.Proofs.YtgdbammhnjkbbaaW.V

