/- The plain statement of the law FnExactWorldLast, proved, under its own bounds alone. -/
import Derived.Test.YtpdcdajccfccbaaMidFnExactWorldLast
namespace Go.Proofs.Ytpdcdajccfccbaa.Pure
open Go.RowKit Go.Proofs.Ytpdcdajccfccbaa.PFnExactWorldLast Go.Proofs.YtpdcdajccfccbaaW.PrintWords Go.Proofs.YtpdcdajccfccbaaW.PrintLast
set_option linter.unusedSimpArgs false
set_option linter.unusedVariables false

theorem WorldLast_in (a b c : Int) : impl_in.f a b c = spec_l1In.f a b c := rfl
theorem WorldLast_ins (a b c : Int) : spec_l1In.f a b c = some (decide (b ≤ a ∧ a ≤ c)) := by
  unfold spec_l1In.f
  by_cases h : a ≥ b
  · rw [if_pos h]; simp; intro _; omega
  · rw [if_neg h]; simp; intro _; omega

theorem WorldLast_setup (a b c d e : Int) : impl_SetupOk.f a b c d e = spec_SetupOk.f a b c d e := by
  unfold spec_SetupOk.f impl_SetupOk.f
  simp only [WorldLast_in, WorldLast_ins, Option.bind_some]
theorem WorldLast_setups (a b c d e : Int) : ∃ r, spec_SetupOk.f a b c d e = some r := by
  unfold spec_SetupOk.f
  simp only [WorldLast_in, WorldLast_ins, Option.bind_some]
  repeat' split
  all_goals exact ⟨_, rfl⟩
theorem FnExactWorldLast : laws_FnExactWorldLast.Pure := by
  intro a b c d e _
  unfold laws_FnExactWorldLast.f laws_toSetup.f spec_WorldLast.f impl_WorldLast.f
  obtain ⟨r, hr⟩ := WorldLast_setups a b c d e
  simp only [WorldLast_setup, hr, Option.bind_some]
  cases r <;> simp

end Go.Proofs.Ytpdcdajccfccbaa.Pure
