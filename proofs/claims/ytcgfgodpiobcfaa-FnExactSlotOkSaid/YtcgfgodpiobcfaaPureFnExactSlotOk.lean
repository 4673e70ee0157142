/- The plain statement of the law FnExactSlotOk, proved, under its own bounds alone. -/
import Derived.Test.YtcgfgodpiobcfaaMidFnExactSlotOk
import Derived.Test.YtcgfgodpiobcfaaRecP
namespace Go.Proofs.Ytcgfgodpiobcfaa.Pure
open Go.RowKit Go.Proofs.Ytcgfgodpiobcfaa.Q Go.Proofs.Ytcgfgodpiobcfaa.Hash Go.Proofs.YtcgfgodpiobcfaaW.PrintWords Go.Proofs.YtcgfgodpiobcfaaW.PrintLast
set_option linter.unusedSimpArgs false
set_option linter.unusedVariables false

theorem FnExactSlotOk : laws_FnExactSlotOk.Plain := by
  rintro a0 a1 a2 a3 a4 a5 a6 _
  obtain ⟨K2, h2⟩ := Ev.get (spec_slotOk a0 a1 a2 a3 a4 a5 a6)
  obtain ⟨K3, h3⟩ := Ev.get (impl_slotOk a0 a1 a2 a3 a4 a5 a6)
  refine ⟨K2 + K3, ?_⟩
  unfold laws_FnExactSlotOk.f laws_toSlot.f laws_toDigest.f
  simp only [Option.bind_some]
  rw [h2 _ (by omega), Option.bind_some, h3 _ (by omega), Option.bind_some]
  simp

end Go.Proofs.Ytcgfgodpiobcfaa.Pure
