/- Functions: nodes of a tree and their halves. No condition but each theorem's own. -/
import Derived.Test.YtcgkhljolflenaaGreatFQT
namespace Go.Proofs.YtcgkhljolflenaaGreatW.V
open Go Go.Proofs
set_option linter.unusedSimpArgs false
set_option linter.unusedVariables false
set_option maxRecDepth 8000
set_option maxHeartbeats 4000000

set_option synthInstance.maxSize 1000

/-- A node of a tree. -/
abbrev cNode : Cd (Int × Int) := cPair (cInt .i64) (cInt .i64)
attribute [go_sem] cNode
abbrev eHalves := eT2 (CE.st cNode) (CE.st cNode) (st_x _) (st_x _)
attribute [go_sem] eHalves
def halvesM (x : Int × Int) : (Int × Int) × (Int × Int) := ((x.1, x.1 + splitM (x.2 - x.1)), (x.1 + splitM (x.2 - x.1), x.2))
theorem splitM_bd (n : Int) : 0 ≤ splitM n ∧ (n ≤ 256 → splitM n ≤ 256) := by
  unfold splitM
  split
  · rename_i h
    have := splitN_lt (n := n.toNat) (by omega)
    omega
  · omega

def H_impl_node_halves : Hint := { fs := [(98, MSplit)], kp := [(0, [0]), (1, [1, 2, 3]), (2, [1, 2, 3, 4])], an := [(1, [0, 1, 0, 4, 0, 16, 60, 124, 255, 511]), (2, [0, 1, 0, 7, 0, 0, 32, 112, 15, 511])] }
attribute [go_sem] H_impl_node_halves
theorem ok_H_impl_node_halves : H_impl_node_halves.ok Tryz.prog := AllOk.okR (.cons ok_impl_TreeSplit .nil) .nil mix
theorem f_halves (x : Int × Int) (h : 0 ≤ x.1 ∧ x.1 ≤ x.2 ∧ x.2 ≤ 256) : VFun Tryz.prog 59 [(CE.st cNode).enc x] [] (eHalves.enc (halvesM x)) [] := by
  obtain ⟨lo, hi⟩ := x
  dsimp only at h
  have sb := splitM_bd (hi - lo)
  have w1 : IntKind.i64.wrap (hi - lo) = hi - lo := wrap64 (by omega) (by omega)
  have w2 : IntKind.i64.wrap (lo + splitM (hi - lo)) = lo + splitM (hi - lo) := wrap64 (by omega) (by omega)
  refine VFun_pure (n := 22) (rs := [.cell 2 104, .cell 3 104]) Tryz.func59 rfl rfl rfl rfl H_impl_node_halves ok_H_impl_node_halves _ _ (Nat.le_of_ble_eq_true rfl) (by kernel_rfl) ?_
  simp only [go_sem, ↓reduceIte, reduceCtorEq, Nat.reduceAdd, Nat.reduceMul, Nat.reduceEqDiff, Nat.reduceSub, Nat.reduceLT, Nat.reduceLeDiff, Nat.reduceAnd, Nat.reduceShiftRight, Nat.reduceBEq, Nat.reduceBNe, Nat.reduceBneDiff, Nat.reduceBeqDiff, Int.reduceToNat, Int.reduceLE, Int.reduceLT, Int.reduceEq, w1, w2]
  rfl
abbrev MHalves : FM := .f1 (CE.st cNode) eHalves.enc halvesM (fun x => 0 ≤ x.1 ∧ x.1 ≤ x.2 ∧ x.2 ≤ 256)
attribute [go_sem] MHalves
theorem ok_impl_node_halves : MHalves.ok Tryz.prog 59 := FM.f1_ok fun x h => f_halves x h

end Go.Proofs.YtcgkhljolflenaaGreatW.V

