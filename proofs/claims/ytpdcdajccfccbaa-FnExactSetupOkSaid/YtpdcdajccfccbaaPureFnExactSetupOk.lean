/- The plain statement of the law FnExactSetupOk, proved, under its own bounds alone. -/
import Derived.Test.YtpdcdajccfccbaaMidFnExactSetupOk
namespace Go.Proofs.Ytpdcdajccfccbaa.Pure
open Go.RowKit Go.Proofs.Ytpdcdajccfccbaa.PFnExactSetupOk Go.Proofs.YtpdcdajccfccbaaW.PrintWords Go.Proofs.YtpdcdajccfccbaaW.PrintLast

theorem SetupOk_in (a b c : Int) : impl_in.f a b c = spec_l1In.f a b c := rfl
theorem SetupOk_ins (a b c : Int) : spec_l1In.f a b c = some (decide (b ≤ a ∧ a ≤ c)) := by
  unfold spec_l1In.f
  by_cases h : a ≥ b
  · rw [if_pos h]; simp; intro _; omega
  · rw [if_neg h]; simp; intro _; omega

theorem FnExactSetupOk : laws_FnExactSetupOk.Pure := by
  intro a b c d e _
  unfold laws_FnExactSetupOk.f laws_toSetup.f spec_SetupOk.f impl_SetupOk.f
  simp only [SetupOk_in, SetupOk_ins, Option.bind_some]
  repeat' split
  all_goals simp_all

end Go.Proofs.Ytpdcdajccfccbaa.Pure
