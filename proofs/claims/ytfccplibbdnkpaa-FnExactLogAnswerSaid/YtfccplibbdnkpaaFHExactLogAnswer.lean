/- The law: the program answers for a log as the reference does, and its answer is its own. No condition but each theorem's own. -/
import Derived.Test.YtfccplibbdnkpaaFGE
namespace Go.Proofs.YtfccplibbdnkpaaW.V
open Go Go.Proofs
set_option linter.unusedSimpArgs false
set_option linter.unusedVariables false
set_option maxRecDepth 8000
set_option maxHeartbeats 4000000


theorem growM_len (l : List ByteArray) (m : Int) : (growM l m).1.length ≤ l.length := by
  unfold growM
  split
  · unfold growN
    split
    · exact Nat.zero_le _
    · rename_i h1 h
      rw [List.length_map, List.length_append]
      rcases Nat.eq_zero_or_pos l.length with h0 | h0
      · have : growOk l m = true := h1
        unfold growOk at this
        simp only [Bool.and_eq_true, decide_eq_true_eq] at this
        omega
      · have := (fall_in 0 l.length m.toNat h0).2.2
        omega
  · exact Nat.zero_le _
theorem ansM_len {l : List ByteArray} {m : Msg} : (ansM l m).1.2.2.2.2.2.2.1.length ≤ 256 ∧ (ansM l m).1.2.2.2.2.2.2.2.length ≤ 256 := by
  by_cases h : leavesOk l = true ∧ wireOkM m = true
  · have hl := leavesOk_iff h.1
    unfold ansM
    rw [if_pos h]
    split
    · exact ⟨by simp, by simp⟩
    · split
      · have := growM_len (l.take m.2.2.2.1.toNat) m.2.2.1
        rw [List.length_take] at this
        exact ⟨by dsimp only; omega, by simp⟩
      · split
        · refine ⟨by simp, ?_⟩
          show (takeN l _ _).length ≤ 256
          unfold takeN
          rw [List.length_take, List.length_drop]
          omega
        · exact ⟨by simp, by simp⟩
  · rw [ansM_no h]
    exact ⟨by simp, by simp⟩

def H_laws_FnExactLogAnswer : Hint := { fs := [(8, OAns), (9, OToLog), (10, OToMsg), (11, OAns), (12, MEqMsg), (13, MEqLog), (14, FM.mkLog), (15, FM.mkMsg), (16, MHeldMsg)], kp := [(0, [0, 1]), (1, [2, 3]), (2, [2, 3, 5]), (3, [2, 3, 5]), (4, []), (5, [2, 3, 5]), (6, [2, 3, 5]), (7, []), (8, [2, 3]), (9, [2, 3, 6, 7]), (10, [2, 3, 6, 7, 8]), (11, [2, 3, 6, 7, 8, 9]), (12, [2, 3, 6, 7, 8, 9, 10, 11]), (13, []), (14, [2, 3, 6, 7, 8, 9, 10, 11]), (15, []), (16, [2, 3, 6, 7, 8, 9, 10, 11]), (17, []), (18, [2, 3, 6, 7, 8, 9, 10, 11]), (19, [2, 3, 6, 7, 8, 9, 10, 11, 12]), (20, [2, 3, 6, 7, 9, 10, 11, 12]), (21, [2, 3, 6, 7, 10, 11, 12]), (22, []), (23, [2, 3, 6, 7, 10]), (24, [2, 3, 6, 7, 10, 13]), (25, [2, 3, 6, 7, 10, 13]), (26, [2, 3, 6, 7, 10, 13, 14]), (27, [2, 3, 6, 7, 10, 13, 14]), (28, []), (29, [2, 3, 6, 7, 10, 13, 14]), (30, []), (31, [2, 3, 6, 7, 10, 13]), (32, [6, 7, 10, 13, 15, 16]), (33, []), (34, [10, 13]), (35, [10, 13, 14]), (36, [13, 14]), (37, []), (38, [13, 14]), (39, []), (40, [])], an := [(8, [0, 1, 0, 7, 15, 31, 63, 63, 0, 383, 1023]), (14, [0, 0, 2, 7, 15]), (16, [0, 0, 2, 7, 15]), (31, [0, 1, 0, 7, 15, 31, 63, 63, 0, 383, 1023])], rs := [(6, RSzLog), (7, RSzMsg)] }
attribute [go_sem] H_laws_FnExactLogAnswer
theorem ok_H_laws_FnExactLogAnswer : H_laws_FnExactLogAnswer.ok Try.prog := AllOk.okR (.cons ok_spec_LogAnswer (.cons ok_laws_toLog (.cons ok_laws_toMessage (.cons ok_impl_LogAnswer (.cons ok_laws_eqMessage (.cons ok_laws_eqLog (.cons ok_laws_markLog (.cons ok_laws_markMessage (.cons ok_laws_heldMessage .nil))))))))) (.cons ok_laws_szLog (.cons ok_laws_szMessage .nil)) mix
theorem f_FnExactLogAnswer (l : Log) (m : Msg) {p1 p2 p3 p4 p5 p6 : Prop} {r : Digest → Prop} (h : l.length ≤ maxLen ∧ ∀ x ∈ l, x.size ≤ maxLen) (g0 : p1 ∧ (p2 ∧ (p3 ∧ (p4 ∧ (p5 ∧ (p6 ∧ ((m.2.2.2.2.2.2.1.length ≤ maxLen ∧ ∀ x ∈ m.2.2.2.2.2.2.1, r x) ∧ (m.2.2.2.2.2.2.2.length ≤ maxLen ∧ ∀ x ∈ m.2.2.2.2.2.2.2, x.size ≤ maxLen)))))))) : VFun Try.prog 3 [(CE.st cLog).enc l, (CE.st cMsg).enc m] [] (eBool.enc true) [] := by
  have g : m.2.2.2.2.2.2.1.length ≤ maxLen ∧ m.2.2.2.2.2.2.2.length ≤ maxLen ∧ ∀ x ∈ m.2.2.2.2.2.2.2, x.size ≤ maxLen := ⟨g0.2.2.2.2.2.2.1.1, g0.2.2.2.2.2.2.2⟩
  clear g0
  obtain ⟨a1, a2⟩ := ansM_len (l := l) (m := m)
  have hb : ((ansM l m).2 == (ansM l m).2) = true := beq_self_eq_true _
  have c1 : (((1 + l.length + 4 * m.2.2.2.2.2.2.1.length + m.2.2.2.2.2.2.2.length : Nat) : Int) < 0) = False := eq_false (by omega)
  have c2 : (((1 + 4 * (ansM l m).1.2.2.2.2.2.2.1.length + (ansM l m).1.2.2.2.2.2.2.2.length : Nat) : Int) < 0) = False := eq_false (by omega)
  have g1 := markD_len 1 (ansM l m).1.2.2.2.2.2.2.1.length
  have g2 := markS_len (1 + 4 * (ansM l m).1.2.2.2.2.2.2.1.length) (ansM l m).1.2.2.2.2.2.2.2.length
  refine VFun_pure (n := 119) (rs := [.tmp 4]) Try.func3 rfl rfl rfl rfl H_laws_FnExactLogAnswer ok_H_laws_FnExactLogAnswer _ _ (Nat.le_of_ble_eq_true rfl) (by kernel_rfl) ?_
  simp only [go_sem, ↓reduceIte, reduceCtorEq, Nat.reduceAdd, Nat.reduceMul, Nat.reduceEqDiff, Nat.reduceSub, Nat.reduceLT, Nat.reduceLeDiff, Nat.reduceAnd, Nat.reduceShiftRight, Nat.reduceBEq, Nat.reduceBNe, Nat.reduceBneDiff, Nat.reduceBeqDiff, Int.reduceToNat, Int.reduceLE, Int.reduceLT, Int.reduceEq, c1, c2, g1, g2, hb]
  refine ⟨h, fun v hv => ite_intro (fun _ => trivial) fun h3 => ⟨⟨g, by omega, by have := hv.2.1; omega⟩, fun u hu => ite_intro (fun _ => trivial) fun h4 => ?_⟩⟩
  have k1 : l.length ≤ 1048576 := by have := hv.2.2 (by omega); omega
  have k2 : m.2.2.2.2.2.2.1.length ≤ 1048576 ∧ m.2.2.2.2.2.2.2.length ≤ 1048576 := by have := hu.2.2 (by omega); have := hv.2.1; omega
  have k3 : ansP l m := ⟨k1, k2⟩
  have m1 : (ansM l m).1.2.2.2.2.2.2.1.length ≤ maxLen ∧ (ansM l m).1.2.2.2.2.2.2.2.length ≤ maxLen := by unfold maxLen; omega
  have m2 : (ansM l m).1.2.2.2.2.2.2.1.length ≤ 1100000 ∧ (ansM l m).1.2.2.2.2.2.2.2.length ≤ 1100000 := by omega
  refine ⟨k1, k2, k3, k1, k2, k3, m1, k1, h.1, k2, ⟨g.1, g.2.1⟩, by omega, ⟨m, rfl, rfl, rfl, by omega, by omega, by omega⟩, m1, ⟨(ansM l m).1, rfl, rfl, rfl, m2⟩, m2, k1, k2, k3, m1, m2⟩

end Go.Proofs.YtfccplibbdnkpaaW.V

