/- The law: the program's tick of a monitor is the reference's, and its answer is its own. No condition but each theorem's own. -/
import Derived.Test.YtlofjogebacndaaGreatFWG
namespace Go.Proofs.YtlofjogebacndaaGreatW.V
open Go Go.Proofs
set_option linter.unusedSimpArgs false
set_option linter.unusedVariables false
set_option maxRecDepth 8000
set_option maxHeartbeats 4000000


theorem monTickM_len (m : Monitor) (me : Int) (h : m.1.2.2.2.2.2.1.length ≤ 1048576) (h2 : m.2.1.length ≤ 1048576) : (monTickM m me).1.1.2.2.2.2.2.1.length ≤ 1048576 ∧ (monTickM m me).1.2.1.length ≤ 1048576 ∧ (monTickM m me).2.1.length ≤ 1 ∧ (monTickM m me).2.2.1 = [] ∧ (monTickM m me).2.2.2.1 = [] ∧ (monTickM m me).2.2.2.2 = [] := by
  have hc : (clTickM m.1 me).1.2.2.2.2.2.1.length ≤ 1048576 ∧ (clTickM m.1 me).2.1.length ≤ 1 := by
    unfold clTickM
    split
    · split
      · exact ⟨h, by simp⟩
      · exact ⟨by simp, by simp⟩
    · exact ⟨by simp, by simp⟩
  unfold monTickM
  split
  · split
    · exact ⟨hc.1, h2, hc.2, rfl, rfl, rfl⟩
    · exact ⟨h, h2, by simp, rfl, rfl, rfl⟩
  · exact ⟨by simp, by simp, by simp, rfl, rfl, rfl⟩

def H_laws_FnExactMonitorTick : Hint := { fs := [(5, OMonTick), (6, OToMonitor), (7, OMonTick), (8, MEqWatched), (9, MEqMonitor), (10, FM.mkMonitor), (11, FM.mkWatched), (12, MHeldWatched)], kp := [(0, [0, 1]), (1, [1, 2]), (2, [1, 2, 5]), (3, [1, 2, 5]), (4, []), (5, [1, 2]), (6, [1, 2, 6]), (7, [1, 2, 6, 7]), (8, [1, 2, 6, 7, 8]), (9, []), (10, [1, 2, 6, 7, 8]), (11, []), (12, [1, 2, 6, 7, 8]), (13, [1, 2, 6, 7, 8, 9]), (14, [1, 2, 6, 8, 9]), (15, []), (16, [1, 2, 6, 8]), (17, [1, 2, 6, 8, 10]), (18, [1, 2, 6, 8, 10]), (19, [1, 2, 6, 8, 10, 11]), (20, [1, 2, 6, 8, 10, 11]), (21, []), (22, [1, 2, 6, 8, 10, 11]), (23, []), (24, [1, 2, 6, 8, 10]), (25, [6, 8, 10, 12]), (26, []), (27, [8, 10]), (28, [8, 10, 11]), (29, [10, 11]), (30, []), (31, [10, 11]), (32, []), (33, [])], an := [(10, [0, 0, 2, 7, 15])], rs := [(4, RSzMonitor)] }
attribute [go_sem] H_laws_FnExactMonitorTick
theorem ok_H_laws_FnExactMonitorTick : H_laws_FnExactMonitorTick.ok Tryz.prog := AllOk.okR (.cons ok_spec_MonitorTick (.cons ok_laws_toMonitor (.cons ok_impl_MonitorTick (.cons ok_laws_eqWatched (.cons ok_laws_eqMonitor (.cons ok_laws_markMonitor (.cons ok_laws_markWatched (.cons ok_laws_heldWatched .nil)))))))) (.cons ok_laws_szMonitor .nil) mix
theorem f_FnExactMonitorTick (m : Monitor) (me : Int) {p1 p2 p3 p4 p5 q1 q2 q3 : Prop} {r : Int → Prop} (h : (p1 ∧ (p2 ∧ (p3 ∧ (p4 ∧ (p5 ∧ ((m.1.2.2.2.2.2.1.length ≤ maxLen ∧ ∀ x ∈ m.1.2.2.2.2.2.1, r x) ∧ q1)))))) ∧ ((m.2.1.length ≤ maxLen ∧ ∀ x ∈ m.2.1, x.size ≤ maxLen) ∧ q2)) (_ : q3) : VFun Tryz.prog 3 [(CE.st cMonitor).enc m, (eInt .i64).enc me] [] (eBool.enc true) [] := by
  have h1 : m.1.2.2.2.2.2.1.length ≤ maxLen := h.1.2.2.2.2.2.1.1
  have h2 := h.2.1
  clear h
  have c1 : (((1 + m.1.2.2.2.2.2.1.length + m.2.1.length : Nat) : Int) < 0) = False := eq_false (by omega)
  have c2 : (((1 + (monTickM m me).1.1.2.2.2.2.2.1.length + (monTickM m me).1.2.1.length + 3 * (monTickM m me).2.1.length : Nat) : Int) < 0) = False := eq_false (by omega)
  have g1 := markI_len 1 (monTickM m me).1.1.2.2.2.2.2.1.length
  have g2 := markS_len (1 + (monTickM m me).1.1.2.2.2.2.2.1.length) (monTickM m me).1.2.1.length
  have g3 := markT_len (1 + (monTickM m me).1.1.2.2.2.2.2.1.length + (monTickM m me).1.2.1.length) (monTickM m me).2.1.length
  refine VFun_pure (n := 74) (rs := [.tmp 4]) Tryz.func3 rfl rfl rfl rfl H_laws_FnExactMonitorTick ok_H_laws_FnExactMonitorTick _ _ (Nat.le_of_ble_eq_true rfl) (by kernel_rfl) ?_
  simp only [go_sem, ↓reduceIte, reduceCtorEq, Nat.reduceAdd, Nat.reduceMul, Nat.reduceEqDiff, Nat.reduceSub, Nat.reduceLT, Nat.reduceLeDiff, Nat.reduceAnd, Nat.reduceShiftRight, Nat.reduceBEq, Nat.reduceBNe, Nat.reduceBneDiff, Nat.reduceBeqDiff, Int.reduceToNat, Int.reduceLE, Int.reduceLT, Int.reduceEq, c1, c2, g1, g2, g3]
  refine ⟨⟨h1, h2⟩, fun v hv => ite_intro (fun _ => trivial) fun h3 => ?_⟩
  have h4 := hv (by omega)
  obtain ⟨k1, k2, k3, k4, k5, k6⟩ := monTickM_len m me h4.1 h4.2
  have m1 : (monTickM m me).1.1.2.2.2.2.2.1.length ≤ 1048576 ∧ (monTickM m me).1.2.1.length ≤ 1048576 ∧ (monTickM m me).2.1.length ≤ maxLen ∧ 0 ≤ maxLen ∧ 0 ≤ maxLen ∧ 0 ≤ maxLen := by unfold maxLen; omega
  have m2 : (monTickM m me).1.1.2.2.2.2.2.1.length ≤ 1100000 ∧ (monTickM m me).1.2.1.length ≤ 1100000 ∧ (monTickM m me).2.1.length ≤ 100 := ⟨by omega, by omega, by omega⟩
  exact ⟨h4, h4, h4, h4, m1, h4, h4, ⟨m, rfl, rfl, rfl, by unfold accN; omega, by omega⟩, m1, ⟨monTickM m me, rfl, rfl, rfl, rfl, m2⟩, m2, h4, h4, m1, m2⟩

end Go.Proofs.YtlofjogebacndaaGreatW.V

