/- The law: the program's tick of a client is the reference's, and its answer is its own. No condition but each theorem's own. -/
import Derived.Test.YtlofjogebacndaaFWE
namespace Go.Proofs.YtlofjogebacndaaW.V
open Go Go.Proofs
set_option linter.unusedSimpArgs false
set_option linter.unusedVariables false
set_option maxRecDepth 8000
set_option maxHeartbeats 4000000


theorem clTickM_acks (c : Client) (me : Int) (h : c.2.2.2.2.2.1.length ≤ 1048576) : (clTickM c me).1.2.2.2.2.2.1.length ≤ 1048576 ∧ (clTickM c me).2.1.length ≤ 1 ∧ (clTickM c me).2.2.1 = [] ∧ (clTickM c me).2.2.2 = [] := by
  unfold clTickM
  split
  · split
    · exact ⟨h, by simp, rfl, rfl⟩
    · exact ⟨by simp, by simp, rfl, rfl⟩
  · exact ⟨by simp, by simp, rfl, rfl⟩

def H_laws_FnExactClientTick : Hint := { fs := [(12, OClTick), (13, OToClient), (14, OClTick), (15, MEqTold), (16, M28), (17, FM.mkClient), (18, FM.mkTold), (19, MHeldTold)], kp := [(0, [0, 1]), (1, [1, 2]), (2, [1, 2, 5]), (3, [1, 2, 5]), (4, []), (5, [1, 2]), (6, [1, 2, 6]), (7, [1, 2, 6, 7]), (8, [1, 2, 6, 7, 8]), (9, []), (10, [1, 2, 6, 7, 8]), (11, []), (12, [1, 2, 6, 7, 8]), (13, [1, 2, 6, 7, 8, 9]), (14, [1, 2, 6, 8, 9]), (15, []), (16, [1, 2, 6, 8]), (17, [1, 2, 6, 8, 10]), (18, [1, 2, 6, 8, 10]), (19, [1, 2, 6, 8, 10, 11]), (20, [1, 2, 6, 8, 10, 11]), (21, []), (22, [1, 2, 6, 8, 10, 11]), (23, []), (24, [1, 2, 6, 8, 10]), (25, [6, 8, 10, 12]), (26, []), (27, [8, 10]), (28, [8, 10, 11]), (29, [10, 11]), (30, []), (31, [10, 11]), (32, []), (33, [])], an := [(10, [0, 0, 2, 7, 15])], rs := [(11, RSzClient)] }
attribute [go_sem] H_laws_FnExactClientTick
theorem ok_H_laws_FnExactClientTick : H_laws_FnExactClientTick.ok Try.prog := AllOk.okR (.cons ok_spec_ClientTick (.cons ok_laws_toClient (.cons ok_impl_ClientTick (.cons ok_laws_eqTold (.cons m28 (.cons ok_laws_markClient (.cons ok_laws_markTold (.cons ok_laws_heldTold .nil)))))))) (.cons ok_laws_szClient .nil) mix
theorem f_FnExactClientTick (c : Client) (me : Int) {p1 p2 p3 p4 p5 q1 q2 : Prop} {r : Int → Prop} (h : p1 ∧ (p2 ∧ (p3 ∧ (p4 ∧ (p5 ∧ ((c.2.2.2.2.2.1.length ≤ maxLen ∧ ∀ x ∈ c.2.2.2.2.2.1, r x) ∧ q1)))))) (_ : q2) : VFun Try.prog 4 [(CE.st cClient).enc c, (eInt .i64).enc me] [] (eBool.enc true) [] := by
  have h1 : c.2.2.2.2.2.1.length ≤ maxLen := h.2.2.2.2.2.1.1
  clear h
  have c1 : (((1 + c.2.2.2.2.2.1.length : Nat) : Int) < 0) = False := eq_false (by omega)
  have c2 : (((1 + (clTickM c me).1.2.2.2.2.2.1.length + 3 * (clTickM c me).2.1.length : Nat) : Int) < 0) = False := eq_false (by omega)
  have g1 := markI_len 1 (clTickM c me).1.2.2.2.2.2.1.length
  have g2 := markT_len (1 + (clTickM c me).1.2.2.2.2.2.1.length) (clTickM c me).2.1.length
  refine VFun_pure (n := 74) (rs := [.tmp 4]) Try.func4 rfl rfl rfl rfl H_laws_FnExactClientTick ok_H_laws_FnExactClientTick _ _ (Nat.le_of_ble_eq_true rfl) (by kernel_rfl) ?_
  simp only [go_sem, ↓reduceIte, reduceCtorEq, Nat.reduceAdd, Nat.reduceMul, Nat.reduceEqDiff, Nat.reduceSub, Nat.reduceLT, Nat.reduceLeDiff, Nat.reduceAnd, Nat.reduceShiftRight, Nat.reduceBEq, Nat.reduceBNe, Nat.reduceBneDiff, Nat.reduceBeqDiff, Int.reduceToNat, Int.reduceLE, Int.reduceLT, Int.reduceEq, c1, c2, g1, g2]
  refine ⟨h1, fun v hv => ite_intro (fun _ => trivial) fun h3 => ?_⟩
  have h4 : c.2.2.2.2.2.1.length ≤ 1048576 := by have := hv.2.2; omega
  obtain ⟨k1, k2, k3, k4⟩ := clTickM_acks c me h4
  have m1 : (clTickM c me).1.2.2.2.2.2.1.length ≤ maxLen ∧ (clTickM c me).2.1.length ≤ maxLen ∧ 0 ≤ maxLen ∧ 0 ≤ maxLen := by unfold maxLen; omega
  have m2 : (clTickM c me).1.2.2.2.2.2.1.length ≤ 1100000 ∧ (clTickM c me).2.1.length ≤ 100 := ⟨by omega, by omega⟩
  exact ⟨h4, h4, h4, h4, m1, h4, h1, ⟨c, rfl, rfl, by omega⟩, m1, ⟨clTickM c me, rfl, rfl, rfl, m2.1, m2.2, k3, k4⟩, m2, h4, h4, m1, m2⟩

end Go.Proofs.YtlofjogebacndaaW.V

