/- The plain statement of the law FnExactStepOk, proved, under its own bounds alone. -/
import Derived.Test.YtpdcdajccfccbaaMidFnExactStepOk
namespace Go.Proofs.Ytpdcdajccfccbaa.Pure
open Go.RowKit Go.Proofs.Ytpdcdajccfccbaa.PFnExactStepOk Go.Proofs.YtpdcdajccfccbaaW.PrintWords Go.Proofs.YtpdcdajccfccbaaW.PrintLast

theorem StepOk_in (a b c : Int) : impl_in.f a b c = spec_l1In.f a b c := rfl
theorem StepOk_ins (a b c : Int) : spec_l1In.f a b c = some (decide (b ≤ a ∧ a ≤ c)) := by
  unfold spec_l1In.f
  by_cases h : a ≥ b
  · rw [if_pos h]; simp; intro _; omega
  · rw [if_neg h]; simp; intro _; omega

theorem FnExactStepOk : laws_FnExactStepOk.Pure := by
  intro a b c d _
  unfold laws_FnExactStepOk.f laws_szStep.f laws_toStep.f spec_StepOk.f impl_StepOk.f
  simp only [StepOk_in, StepOk_ins, Option.bind_some]
  repeat' split
  all_goals simp_all

end Go.Proofs.Ytpdcdajccfccbaa.Pure
