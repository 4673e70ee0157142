/- The law of bags: no more letters than there is room for. No condition but each theorem's own. -/
import Derived.Test.YtobfeplphdnhfaaFGL
namespace Go.Proofs.YtobfeplphdnhfaaW.V
open Go Go.Proofs
set_option linter.unusedSimpArgs false
set_option linter.unusedVariables false
set_option maxRecDepth 8000
set_option maxHeartbeats 4000000


def H_laws_FnBagKept : Hint := { fs := [(8, M42), (10, MTake), (11, MIf), (13, MSend), (14, MSend), (16, MDbl), (17, M51)], kp := [(0, [0]), (1, [0]), (2, []), (3, [0]), (4, [0, 3, 4]), (5, [0, 3, 4, 5, 6]), (6, [0, 3, 4, 5, 6, 8]), (7, []), (8, [0, 3, 4, 5, 6]), (9, [5]), (10, [0, 3, 4, 5, 6]), (11, [0, 3, 4, 5, 6, 9]), (12, [3, 4, 5, 6, 9, 10]), (13, [3, 4, 5, 6, 9, 10, 11, 12]), (14, [3, 4, 5, 6, 9, 11, 12, 13, 15]), (15, []), (16, [4, 5, 6, 9, 11, 12, 13, 15]), (17, []), (18, [9, 11, 12, 13, 15])], an := [(16, [0, 1, 3, 7, 15, 31, 63, 127, 255, 511, 127, 127, 2175, 7295, 16383, 32767, 65535]), (18, [0, 1, 3, 7, 15, 31, 63, 127, 255, 511, 127, 127, 2175, 7295, 16383, 32767, 65535, 131071, 262143, 524287, 131071, 131071, 2228223, 7471103, 16777215, 33554431, 67108863])], rs := [(12, RDrawBagSend), (15, RAt)] }
attribute [go_sem] H_laws_FnBagKept
theorem ok_H_laws_FnBagKept : H_laws_FnBagKept.ok Try.prog := AllOk.okR (.cons m42 (.cons ok_impl_BagTake (.cons ok_laws_ifInt (.cons ok_impl_BagSend (.cons ok_spec_BagSend (.cons ok_impl_BagDouble (.cons m51 .nil))))))) (.cons ok_spec_DrawBagSend (.cons ok_laws_at .nil)) mix
theorem f_FnBagKept (b : List UInt8) (_ : b.length ≤ maxLen ∧ ∀ x ∈ b, True) : VFun Try.prog 4 [(eList cU8).enc b] [] (eBool.enc true) [] := by
  refine VFun_pure (n := 130) (rs := [.tmp 2]) Try.func4 rfl rfl rfl rfl H_laws_FnBagKept ok_H_laws_FnBagKept _ _ (Nat.le_of_ble_eq_true rfl) (by kernel_rfl) ?_
  simp only [go_sem, ↓reduceIte, reduceCtorEq, Nat.reduceAdd, Nat.reduceMul, Nat.reduceEqDiff, Nat.reduceSub, Nat.reduceLT, Nat.reduceLeDiff, Nat.reduceAnd, Nat.reduceShiftRight, Nat.reduceBEq, Nat.reduceBNe, Nat.reduceBneDiff, Nat.reduceBeqDiff, Int.reduceToNat, Int.reduceLE, Int.reduceLT, Int.reduceEq]
  refine ite_intro (fun _ => trivial) fun h => ⟨by omega, ?_⟩
  rintro ⟨x, l⟩ ⟨g1, -, -⟩
  dsimp only at g1 ⊢
  have g2 : x.2.length ≤ 999999 := by omega
  refine ⟨g2, g2, ?_⟩
  cases hb : bagOk x with
  | false => simp [sendM_no hb]
  | true =>
    simp only [beq_self_eq_true, Bool.true_eq_false, Bool.false_eq_true, if_false]
    refine ⟨by omega, fun y => ⟨g2, g2, ?_⟩⟩
    generalize IntKind.i64.wrap (IntKind.i64.wrap ↑y.toNat - 100) = k
    obtain ⟨d1, d2, d3⟩ := dblM_law k hb
    obtain ⟨t1, t2, t3⟩ := takeM_law k hb
    have wr : ∀ c : Bool, IntKind.i64.wrap ((x.2.length : Int) + if c = true then 1 else 0) = (x.2.length : Int) + if c = true then 1 else 0 := fun c => by cases c <;> (simp; rw [wrap64] <;> omega)
    have wr' : ∀ c : Bool, IntKind.i64.wrap ((x.2.length : Int) - if c = true then 1 else 0) = (x.2.length : Int) - if c = true then 1 else 0 := fun c => by cases c <;> (simp; rw [wrap64] <;> omega)
    simp only [wr, wr', d3, t3, d2, t2]
    simp only [d1, t1]
    cases hl : letterOk l with
    | true =>
      obtain ⟨s1, s2⟩ := sendM_law hb hl
      by_cases hn : 0 < (x.2.length : Int) <;> by_cases hr : (x.2.length : Int) < x.1 <;> simp [s1, s2, hn, hr]
    | false =>
      by_cases hn : 0 < (x.2.length : Int) <;> by_cases hr : (x.2.length : Int) < x.1 <;> simp [hn, hr]

end Go.Proofs.YtobfeplphdnhfaaW.V

