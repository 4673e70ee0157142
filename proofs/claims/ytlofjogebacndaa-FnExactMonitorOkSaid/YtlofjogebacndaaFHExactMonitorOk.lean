/- The law: the program says of a monitor what the reference says. No condition but each theorem's own. -/
import Derived.Test.YtlofjogebacndaaFQM
namespace Go.Proofs.YtlofjogebacndaaW.V
open Go Go.Proofs
set_option linter.unusedSimpArgs false
set_option linter.unusedVariables false
set_option maxRecDepth 8000
set_option maxHeartbeats 4000000


def H_laws_FnExactMonitorOk : Hint := { fs := [(7, MMonOk), (8, MToMonitor), (9, MMonOk), (10, MEqMonitor)], kp := [(0, [0]), (1, [1]), (2, [1, 3]), (3, [1, 3]), (4, []), (5, [1]), (6, [1, 4]), (7, [1, 4, 5]), (8, [1, 4, 5, 6]), (9, []), (10, [1, 5]), (11, []), (12, [])], an := [(10, [0, 0, 2, 7, 15])], rs := [(6, RSzMonitor)] }
attribute [go_sem] H_laws_FnExactMonitorOk
theorem ok_H_laws_FnExactMonitorOk : H_laws_FnExactMonitorOk.ok Try.prog := AllOk.okR (.cons ok_spec_MonitorOk (.cons ok_laws_toMonitor (.cons ok_impl_MonitorOk (.cons ok_laws_eqMonitor .nil)))) (.cons ok_laws_szMonitor .nil) mix
theorem f_FnExactMonitorOk (m : Monitor) {p1 p2 p3 p4 p5 q1 q2 : Prop} {r : Int → Prop} (h : (p1 ∧ (p2 ∧ (p3 ∧ (p4 ∧ (p5 ∧ ((m.1.2.2.2.2.2.1.length ≤ maxLen ∧ ∀ x ∈ m.1.2.2.2.2.2.1, r x) ∧ q1)))))) ∧ ((m.2.1.length ≤ maxLen ∧ ∀ x ∈ m.2.1, x.size ≤ maxLen) ∧ q2)) : VFun Try.prog 3 [(CE.st cMonitor).enc m] [] (eBool.enc true) [] := by
  have h1 : m.1.2.2.2.2.2.1.length ≤ maxLen := h.1.2.2.2.2.2.1.1
  have h2 := h.2.1
  clear h
  refine VFun_pure (n := 27) (rs := [.tmp 2]) Try.func3 rfl rfl rfl rfl H_laws_FnExactMonitorOk ok_H_laws_FnExactMonitorOk _ _ (Nat.le_of_ble_eq_true rfl) (by kernel_rfl) ?_
  simp only [go_sem, ↓reduceIte, reduceCtorEq, Nat.reduceAdd, Nat.reduceMul, Nat.reduceEqDiff, Nat.reduceSub, Nat.reduceLT, Nat.reduceLeDiff, Nat.reduceAnd, Nat.reduceShiftRight, Nat.reduceBEq, Nat.reduceBNe, Nat.reduceBneDiff, Nat.reduceBeqDiff, Int.reduceToNat, Int.reduceLE, Int.reduceLT, Int.reduceEq]
  refine ⟨⟨h1, h2⟩, fun v hv => ite_intro (fun _ => trivial) fun h3 => ?_⟩
  have h4 := hv (by omega)
  simp [h4]

end Go.Proofs.YtlofjogebacndaaW.V

