/- The plain statement of the law FnExactLetterOk, proved, under its own bounds alone. -/
import Derived.Test.YtpdcdajccfccbaaMidFnExactLetterOk
namespace Go.Proofs.Ytpdcdajccfccbaa.Pure
open Go.RowKit Go.Proofs.Ytpdcdajccfccbaa.PFnExactLetterOk Go.Proofs.YtpdcdajccfccbaaW.PrintWords Go.Proofs.YtpdcdajccfccbaaW.PrintLast

theorem LetterOk_in (a b c : Int) : impl_in.f a b c = spec_l1In.f a b c := rfl
theorem LetterOk_ins (a b c : Int) : spec_l1In.f a b c = some (decide (b ≤ a ∧ a ≤ c)) := by
  unfold spec_l1In.f
  by_cases h : a ≥ b
  · rw [if_pos h]; simp; intro _; omega
  · rw [if_neg h]; simp; intro _; omega

theorem FnExactLetterOk : laws_FnExactLetterOk.Pure := by
  intro a b c _
  unfold laws_FnExactLetterOk.f laws_szLetter.f laws_toLetter.f spec_LetterOk.f impl_LetterOk.f
  simp only [LetterOk_in, LetterOk_ins, Option.bind_some]
  repeat' split
  all_goals simp_all

end Go.Proofs.Ytpdcdajccfccbaa.Pure
