/- The law: the program says of a witness what the reference says. No condition but each theorem's own. -/
import Derived.Test.YtgdbammhnjkbbaaFSG
namespace Go.Proofs.YtgdbammhnjkbbaaW.V
open Go Go.Proofs
set_option linter.unusedSimpArgs false
set_option linter.unusedVariables false
set_option maxRecDepth 8000
set_option maxHeartbeats 4000000

def H_laws_FnExactWitnessOk : Hint := { fs := [(15, MSzWitness), (16, MWitOk), (17, MToWitness), (18, MWitOk), (19, MEqWitness)], kp := [(0, [0]), (1, [1]), (2, [1, 3]), (3, [1, 3]), (4, []), (5, [1]), (6, [1, 4]), (7, [1, 4, 5]), (8, [1, 4, 5, 6]), (9, []), (10, [1, 5]), (11, []), (12, [])], an := [(10, [0, 0, 2, 7, 15])] }
attribute [go_sem] H_laws_FnExactWitnessOk
theorem ok_H_laws_FnExactWitnessOk : H_laws_FnExactWitnessOk.ok Try.prog := AllOk.okR (.cons ok_laws_szWitness (.cons ok_spec_WitnessOk (.cons ok_laws_toWitness (.cons ok_impl_WitnessOk (.cons ok_laws_eqWitness .nil))))) .nil mix
theorem f_FnExactWitnessOk (w : Witness) {p : Prop} {q : Wish → Prop} (h : p ∧ (w.2.length ≤ maxLen ∧ ∀ x ∈ w.2, q x)) : VFun Try.prog 4 [(CE.st cWitness).enc w] [] (eBool.enc true) [] := by
  obtain ⟨d, ws⟩ := w
  have hl : ws.length ≤ maxLen := h.2.1
  refine VFun_pure (n := 27) (rs := [.tmp 2]) Try.func4 rfl rfl rfl rfl H_laws_FnExactWitnessOk ok_H_laws_FnExactWitnessOk _ _ (Nat.le_of_ble_eq_true rfl) (by kernel_rfl) ?_
  simp only [go_sem, ↓reduceIte, reduceCtorEq, Nat.reduceAdd, Nat.reduceMul, Nat.reduceEqDiff, Nat.reduceSub, Nat.reduceLT, Nat.reduceLeDiff, Nat.reduceAnd, Nat.reduceShiftRight, Nat.reduceBEq, Nat.reduceBNe, Nat.reduceBneDiff, Nat.reduceBeqDiff, Int.reduceToNat, Int.reduceLE, Int.reduceLT, Int.reduceEq]
  refine ⟨hl, ite_intro (fun _ => trivial) fun h1 => ?_⟩
  have h2 : ws.length ≤ 1048576 := by
    by_cases h3 : 1048576 < (ws.length : Int)
    · rw [if_pos h3] at h1; omega
    · omega
  simp [h2, hl]

end Go.Proofs.YtgdbammhnjkbbaaW.V

