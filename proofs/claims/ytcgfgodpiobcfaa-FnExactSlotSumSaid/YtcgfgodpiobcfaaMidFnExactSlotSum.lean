/- The plain statement of the law FnExactSlotSum, over numbers and lists; and that what reads as data of a type has cells of the kind of that type. No condition. -/
import Derived.Test.YtcgfgodpiobcfaaQD
import Derived.Test.YtcgfgodpiobcfaaWOpen
import Derived.KernelRfl
namespace Go.Proofs.Ytcgfgodpiobcfaa.Q
open Go.RowKit Go.Proofs.YtcgfgodpiobcfaaW.PrintWords Go.Proofs.YtcgfgodpiobcfaaW.PrintLast
set_option linter.unusedVariables false
/-- The one plain statement of this law. -/
def laws_FnExactSlotSum.Plain : Prop := ∀ (a0_0 : Int) (a0_1 : Int) (a0_2 : Int) (a0_3 : Int) (a0_4 : Int) (a0_5 : Int) (a0_6 : Int), ((Lit.int .u64 a0_0).wf = true ∧ (Lit.int .u64 a0_1).wf = true ∧ (Lit.int .u64 a0_2).wf = true ∧ ((Lit.int .u64 a0_3).wf = true ∧ (Lit.int .u64 a0_4).wf = true ∧ (Lit.int .u64 a0_5).wf = true ∧ (Lit.int .u64 a0_6).wf = true)) → ∃ k, laws_FnExactSlotSum.f k a0_0 a0_1 a0_2 a0_3 a0_4 a0_5 a0_6 = some true
end Go.Proofs.Ytcgfgodpiobcfaa.Q
